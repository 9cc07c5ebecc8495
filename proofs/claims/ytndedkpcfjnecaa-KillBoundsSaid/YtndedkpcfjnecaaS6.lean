/- kill against its reference: the plain laws; what a law reads. -/
import Derived.Test.YtndedkpcfjnecaaS5
namespace Go.Proofs.Ytndedkpcfjnecaa.Ab
open Go.Proofs
set_option maxRecDepth 100000
set_option maxHeartbeats 4000000
set_option linter.unusedSimpArgs false
set_option linter.unusedVariables false
set_option linter.unusedSectionVars false
theorem push_L {R : Ring} {l : List Sg} {how : Int} (h : 0 ≤ how ∧ how ≤ 2) (hl : l ≠ []) : (R.push l how).L = kpush R.L l how R.most := by
  have hm : R.more l how = kmore R.L l how := by
    unfold Ring.more kmore Ring.last
    split
    · rfl
    · rename_i hc
      by_cases h2 : how = 2
      · rw [if_pos h2, if_neg (by omega)]
      · rw [if_neg h2, if_pos (by omega)]
  unfold Ring.push kpush
  rw [if_neg hl, hm]
  split <;> rfl
theorem push_hand {R : Ring} {l : List Sg} {how : Int} (hl : l ≠ []) : (R.push l how).hand - (R.push l how).fr = (R.push l how).L.length - 1 := by
  unfold Ring.push
  rw [if_neg hl]
  split
  · rename_i h
    show R.fr + (R.more l how).length - 1 - (R.fr + 1) = (((R.more l how).drop 1).length : Int) - 1
    have : 0 < (R.more l how).length := by
      unfold Ring.more
      split <;> simp
    rw [List.length_drop]; omega
  · show R.fr + (R.more l how).length - 1 - R.fr = ((R.more l how).length : Int) - 1
    omega
theorem push_most {R : Ring} {l : List Sg} {how : Int} : (R.push l how).most = R.most := by
  unfold Ring.push
  split
  · rfl
  · split <;> rfl
theorem push_fr {R : Ring} {l : List Sg} {how : Int} : (R.push l how).fr ≤ R.fr + 1 := by
  unfold Ring.push
  split
  · omega
  · split
    · exact Int.le_refl _
    · show R.fr ≤ R.fr + 1
      omega
theorem push_short {R : Ring} {l : List Sg} {how : Int} {n : Nat} (h : ∀ t ∈ R.L, t.length ≤ n) (hl : l.length ≤ 60) : ∀ t ∈ (R.push l how).L, t.length ≤ n + 60 := by
  have hlast : R.L ≠ [] → R.last.length ≤ n := fun hne => by
    unfold Ring.last
    rw [List.getLastD_eq_getLast?, List.getLast?_eq_some_getLast hne]
    exact h _ (List.getLast_mem hne)
  have hm : ∀ t ∈ R.more l how, t.length ≤ n + 60 := by
    unfold Ring.more
    intro t ht
    split at ht
    · rcases List.mem_append.1 ht with q | q
      · have := h t q; omega
      · simp at q; subst q; omega
    · rename_i hc
      have h9 := hlast (fun e => hc (.inr e))
      rcases List.mem_append.1 ht with q | q
      · have := h t ((List.dropLast_sublist R.L).subset q); omega
      · simp at q
        subst q
        split <;> rw [List.length_append] <;> omega
  unfold Ring.push
  split
  · intro t ht; have := h t ht; omega
  · split
    · intro t ht
      exact hm t (List.mem_of_mem_drop ht)
    · exact hm
theorem push_fits {R : Ring} {l : List Sg} {how : Int} (hm : R.L.length ≤ R.most) (h1 : 1 ≤ R.most) : (R.push l how).L.length ≤ R.most := by
  have := more_len R l how
  unfold Ring.push
  split
  · exact hm
  · split
    · show (((R.more l how).drop 1).length : Int) ≤ R.most
      rw [List.length_drop]
      split at this <;> omega
    · show ((R.more l how).length : Int) ≤ R.most
      omega
theorem push_ne {R : Ring} {l : List Sg} {how : Int} (h1 : 1 ≤ R.most) (hl : l ≠ []) : (R.push l how).L ≠ [] := by
  have := more_len R l how
  unfold Ring.push
  rw [if_neg hl]
  split
  · rename_i h9
    intro e
    have e : (R.more l how).drop 1 = [] := e
    have : ((R.more l how).drop 1).length = 0 := by rw [e]; rfl
    rw [List.length_drop] at this
    omega
  · intro e
    have e : R.more l how = [] := e
    have h0 : (R.more l how).length = 0 := by rw [e]; rfl
    split at this
    · omega
    · rename_i hc
      have : R.L.length ≠ 0 := fun e0 => hc (.inr (List.eq_nil_of_length_eq_zero e0))
      omega
theorem turn_hand {R : Ring} {hand : Int} (hne : R.L ≠ []) (hin : R.fr ≤ R.hand ∧ R.hand < R.to) (hh : hand = R.hand - R.fr) : R.turn.hand - R.turn.fr = (hand + R.L.length - 1).tmod R.L.length := by
  have hto : R.to = R.fr + R.L.length := rfl
  unfold Ring.turn
  rw [if_neg hne]
  show (if R.hand - 1 < R.fr then R.to - 1 else R.hand - 1) - R.fr = _
  split
  · have : hand = 0 := by omega
    subst this
    rw [Int.tmod_eq_of_lt (by omega) (by omega)]
    omega
  · have e1 : hand + R.L.length - 1 = (hand - 1) + R.L.length := by omega
    rw [e1, Int.tmod_eq_emod_of_nonneg (by omega), Int.add_emod_right, Int.emod_eq_of_lt (by omega) (by omega)]
    omega
theorem turn_same {R : Ring} : R.turn.L = R.L ∧ R.turn.most = R.most ∧ R.turn.fr = R.fr := by
  unfold Ring.turn
  split <;> exact ⟨rfl, rfl, rfl⟩
/-- A ring where a row of another kind is stored. -/
theorem RingR.set {s : St} {p : Value} {R : Ring} (h : RingR s p R) {b : Nat} {r r' : Row} (hb : s.get b = some (.own r)) (h1 : r.elem ≠ 94) (h2 : r.elem ≠ 29) : RingR (s.set b (.own r')) p R := by
  obtain ⟨c, M, clk, es, e, q⟩ := h
  refine ⟨c, M, clk, es, e, ?_⟩
  have f : Fr [r.elem] s (s.set b (.own r')) := (Fr.refl _ s).set hb (by simp [quiet])
  have hc : c ≠ b := fun e => by
    subst e
    have := q.hb
    rw [hb] at this
    cases this
    exact h1 rfl
  have hM : M ≠ b := fun e => by
    subst e
    have := q.hM
    rw [hb] at this
    cases this
  refine { q with hb := by rw [get_set_ne hc]; exact q.hb, hM := by rw [get_set_ne hM]; exact q.hM, hL := fun i l hl => ?_ }
  obtain ⟨u, h3, h4⟩ := q.hL i l hl
  exact ⟨u, h3, h4.fr f (by simp; exact Ne.symm h2)⟩
/-- Calls, of a slice. -/
def CallsV (s : St) (v : Value) (cs : List (Int × List Sg)) : Prop := ∃ vs : List Value, Sl s 40 2 v cs.length vs ∧ ∀ (i : Nat) c, cs[i]? = some c → ∃ u, vs[i * 2]? = some (.int .i64 c.1) ∧ vs[i * 2 + 1]? = some u ∧ SignsV s u c.2
theorem CallsV.fr {s s' : St} {v : Value} {cs : List (Int × List Sg)} {ts : List Nat} (h : CallsV s v cs) (f : Fr ts s s') (h1 : ts.contains 29 = false) (h2 : ts.contains 40 = false) : CallsV s' v cs := by
  obtain ⟨vs, q1, q2⟩ := h
  exact ⟨vs, q1.fr f h2, fun i c hc => by
    obtain ⟨u, h5, h6, h7⟩ := q2 i c hc
    exact ⟨u, h5, h6, h7.fr f h1⟩⟩
theorem CallsV.at {s : St} {v : Value} {cs : List (Int × List Sg)} (h : CallsV s v cs) (hn : 0 < cs.length) : ∃ a cap, v = .slice (some a) cs.length cap ∧ ∀ (i : Nat) c, cs[i]? = some c → ∃ u, s.rd (Addr.fwd a (i * 2)) 2 = some [.int .i64 c.1, u] ∧ SignsV s u c.2 := by
  obtain ⟨vs, h1, h2⟩ := h
  have hcl := h1.clen
  obtain ⟨a, cap, h3, h4, _⟩ := h1.pos hn
  refine ⟨a, cap, h3, fun i c hc => ?_⟩
  have hil := (List.getElem?_eq_some_iff.1 hc).1
  obtain ⟨u, h5, h6, h7⟩ := h2 i c hc
  refine ⟨u, ?_, h7⟩
  rw [rd_fwd h4 (by omega)]
  congr 1
  apply List.ext_getElem?
  intro j
  rw [List.getElem?_take, List.getElem?_drop]
  match j with
  | 0 => simpa using h5
  | 1 => simpa using h6
  | j + 2 => simp; intro h; omega
theorem CallsV.len {k : Nat → List Value → Option Value} {s : St} {v : Value} {cs : List (Int × List Sg)} (h : CallsV s v cs) (s2 : St) : lenv (XK k) 31 v s2 = some (cs.length : Int) := by
  obtain ⟨vs, h1, _⟩ := h
  exact h1.len ty31 s2
theorem Fr.more {ts us : List Nat} {s s' : St} (h : Fr ts s s') (hs : ∀ t ∈ ts, t ∈ us) : Fr us s s' := ⟨h.1, fun b o hb hq => h.2 b o hb (by
  cases o with
  | own r =>
    simp only [quiet, Bool.not_eq_true', List.contains_eq_mem, decide_eq_false_iff_not] at hq ⊢
    exact fun hm => hq (hs _ hm)
  | _ => first | exact hq | rfl)⟩
end Go.Proofs.Ytndedkpcfjnecaa.Ab
