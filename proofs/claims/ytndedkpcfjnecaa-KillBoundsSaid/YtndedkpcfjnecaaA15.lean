/- Code and calls: what the evaluator answers is what the machine's calls answer. -/
import Derived.Test.YtndedkpcfjnecaaA14
import Derived.Scope
import Derived.LoopN
set_option linter.unusedSimpArgs false
set_option linter.unusedVariables false
namespace Go.Proofs.Ytndedkpcfjnecaa.Ab

theorem binds_any (e : Edge) : Region.binds .any e = plainEdge e := by
  unfold Region.binds plainEdge
  cases e.ground <;> rfl

section
variable {X : Prg} {P : Program} (H : SoundF X P) {call : Caller} (HC : CallOk X P call)

include H HC in
theorem draw_sound {L : List Oper} {ρ : Env} {s : St} {T : Env} {s' : St} {id : Nat} {Q : Exit → Act → World → Prop} (h : runOps call X L.toArray L ρ s = some (T, s')) (hst : statOk X L = true) (hrd : readsOk X L T (trace call X L.toArray L ρ s) = true)
    {φ : Phi} {a : Act} {w : World} {n : Nat} (ho : ∀ o ∈ L, operOk X n o = true) (hn : n ≤ a.tmps.size) (hr : EnvRel φ ρ a) (hg : GlobOk X φ) (hs : SRel X φ s.get w) (hf : Fresh φ s.size s'.size)
    (hQ : ∀ φ' a' w', EnvRel φ' T a' → a'.tmps.size = a.tmps.size → a'.defers = a.defers → SRel X φ' s'.get w' → Step φ φ' s s' w w' → Q .normal a' w') : (Code.region id L.toArray true).wp P Q a w := by
  obtain ⟨R, S, HT⟩ := trace_spec L ρ s T s' h
  have HS := stat_of hst
  refine wp_region_any H.mixed ?_
  obtain ⟨w0, hw0⟩ : ∃ w0 : World, w0 = { w with drawn := w.drawn + 1 } := ⟨_, rfl⟩
  rw [← hw0]
  have hheap : w0.heap = w.heap := by rw [hw0]
  have lim : ∀ (m : Nat) (listed : Array Bool) (a1 : Act) (w1 : World), listed.size = L.length → listed.toList.count false = m → (∃ φ1 q, DInv X L ρ s T s' S φ a w0 (fun j => listed.getD j true) a1 w1 φ1 q) → wpAny P .any L.toArray Q m listed a1 w1 := by
    intro m
    induction m with
    | zero =>
      rintro listed a1 w1 hsz hcnt ⟨φ1, q, hI⟩
      have hall : ∀ j, listed.getD j true = true := by
        intro j
        rw [List.count_eq_zero] at hcnt
        cases hj : listed[j]? with
        | none => simp [hj]
        | some x =>
          cases x with
          | true => simp [hj]
          | false =>
            exfalso
            refine hcnt (List.mem_of_getElem? (i := j) ?_)
            simpa using hj
      refine ⟨?_, ?_⟩
      · unfold Region.ready
        rw [List.filter_eq_nil_iff]
        intro i _
        rw [hall i]
        simp
      · have hq : q = L.length := by
          rcases Nat.lt_or_ge q L.length with h1 | h1
          · have := hI.qhi q (Nat.le_refl _) (hI.qat h1)
            simp only [hall q] at this; cases this
          · have := hI.qn; omega
        subst hq
        have kp : Keep s s' := by have := keep_le HC HT (Nat.zero_le _) (Nat.le_refl L.length); rwa [HT.s0, HT.sn] at this
        refine hQ φ1 a1 w1 (fun t => ?_) hI.tsz hI.tdf (hI.srel.weaken fun x e l _ => ?_) ?_
        · by_cases hex : ∃ (j : Nat) (o : Oper), L[j]? = some o ∧ o.dst = some t
          · obtain ⟨j, o, h1, h2⟩ := hex
            exact hI.env1 j o t h1 h2 (hall j)
          · have e1 : T.get t = ρ.get t := by
              rw [← HT.rn, ← HT.r0]
              exact R_keep HT t (Nat.zero_le _) (Nat.le_refl _) fun k p _ _ h3 h4 => hex ⟨k, p, h3, h4⟩
            rw [e1]
            exact hI.env2 t fun j o h1 h2 => absurd ⟨j, o, h1, h2⟩ hex
        · by_cases hx : x < s'.size
          · right
            unfold G
            rw [HT.sn, if_pos hx]
          · left; exact St.get_ge (by omega)
        · have st := hI.st
          refine ⟨kp.1, st.le, fun b e l hb => ?_, fun b hb => ?_, ?_, ?_, ?_, ?_, fun c hc hcm => ?_⟩
          · rw [← hheap]; exact st.new b e l hb
          · rcases hb with hb | hb
            · exact kp.2 b hb
            · rw [St.get_ge hb, St.get_ge (by have := kp.1; omega)]
          · rw [st.os, hw0]
          · rw [st.tape, hw0]
          · rw [st.output, hw0]
          · rw [← hheap]; exact st.wsize
          · rw [← hheap]; exact st.frm c (by rw [hheap]; exact hc) hcm
    | succ m ih =>
      rintro listed a1 w1 hsz hcnt ⟨φ1, q, hI⟩
      refine ⟨fun hnil => ?_, fun i hi => ?_⟩
      · exfalso
        have hex : ∃ i, i < L.length ∧ listed.getD i true = false := by
          have : false ∈ listed.toList := by rw [← List.count_pos_iff]; omega
          obtain ⟨i, hi, h1⟩ := List.getElem_of_mem this
          simp only [Array.length_toList] at hi
          refine ⟨i, by omega, ?_⟩
          simp only [Array.getElem_toList] at h1
          simp [hi, h1]
        have hmin : ∀ k, (∃ i, i ≤ k ∧ i < L.length ∧ listed.getD i true = false) → ∃ i, i < L.length ∧ listed.getD i true = false ∧ ∀ j, j < i → listed.getD j true = true := by
          intro k
          induction k with
          | zero => rintro ⟨i, h1, h2, h3⟩; exact ⟨i, h2, h3, fun j hj => by omega⟩
          | succ k ihk =>
            rintro ⟨i, h1, h2, h3⟩
            by_cases hlow : ∃ j, j ≤ k ∧ j < L.length ∧ listed.getD j true = false
            · exact ihk hlow
            · refine ⟨i, h2, h3, fun j hj => ?_⟩
              cases hb : listed.getD j true with
              | true => rfl
              | false => exact absurd ⟨j, by omega, by omega, hb⟩ hlow
        obtain ⟨i0, h1, h2⟩ := hex
        obtain ⟨i, hi, hb, hlow⟩ := hmin i0 ⟨i0, Nat.le_refl _, h1, h2⟩
        have hin : i ∈ Region.ready .any L.toArray listed := by
          unfold Region.ready
          rw [List.mem_filter, List.mem_range]
          have ho := List.getElem?_eq_getElem hi
          refine ⟨by simpa using hi, ?_⟩
          rw [hb]
          simp only [List.getElem?_toArray, ho, Option.map_some, Option.getD_some, Bool.not_false, Bool.true_and]
          rw [Array.all_eq_true']
          intro e he
          rw [binds_any]
          cases hp : plainEdge e with
          | false => rfl
          | true =>
            have hlt := HS.up i _ ho e (Array.mem_toList_iff.2 he) hp
            have := hlow e.on hlt
            have hsz2 : e.on < listed.size := by omega
            simpa [hsz2] using this
        rw [hnil] at hin
        cases hin
      · unfold Region.ready at hi
        rw [List.mem_filter, List.mem_range] at hi
        obtain ⟨hil, h1⟩ := hi
        have hil : i < L.length := by simpa using hil
        have hio := List.getElem?_eq_getElem hil
        rw [Bool.and_eq_true] at h1
        obtain ⟨h2, h3⟩ := h1
        have hb : listed.getD i true = false := by simpa using h2
        simp only [List.getElem?_toArray, hio, Option.map_some, Option.getD_some] at h3
        have hready : ∀ e ∈ L[i].after.toList, plainEdge e = true → (fun j => listed.getD j true) e.on = true := fun e he hp => by
          rw [Array.all_eq_true'] at h3
          have := h3 e (Array.mem_toList_iff.1 he)
          rw [binds_any, hp] at this
          have hlt := HS.up i _ hio e he hp
          have hsz2 : e.on < listed.size := by omega
          simpa [hsz2] using this
        have key := dinv_ready H HC HT HS hrd (Q := Q) hI hf hg hn hio hb (ho _ (List.mem_of_getElem? hio)) hready (wpAny P .any L.toArray Q m (listed.setIfInBounds i true)) (fun a' w' φ' q' hI' => by
          refine ih _ a' w' (by simpa using hsz) ?_ ⟨φ', q', ?_⟩
          · have hsz3 : i < listed.size := by omega
            have hli : listed.toList[i]? = some false := by
              have : listed[i]? = some false := by
                have h5 : listed[i] = false := by simpa [hsz3] using hb
                rw [Array.getElem?_eq_getElem hsz3, h5]
              simpa using this
            obtain ⟨hl, hv⟩ := List.getElem?_eq_some_iff.1 hli
            rw [Array.toList_setIfInBounds]
            have := List.count_set (a := true) (b := false) hl
            rw [this, hv, hcnt]
            simp
          · have : (fun j => (listed.setIfInBounds i true).getD j true) = upb (fun j => listed.getD j true) i := by
              funext j
              unfold upb
              by_cases hji : j = i
              · subst hji
                have hsz3 : j < listed.size := by omega
                simp [hsz3]
              · have hij : i ≠ j := fun h => hji h.symm
                simp [hji, Array.getElem?_setIfInBounds, hij]
            rw [this]
            exact hI')
        unfold wpOp
        simp only [List.getElem?_toArray, hio]
        split
        · rename_i hw
          rw [if_pos hw] at key
          exact .inl key
        · rename_i hw
          rw [if_neg hw] at key
          exact key
  have hcount : (Array.replicate L.toArray.size false).toList.count false = L.toArray.size := by simp
  refine lim L.toArray.size (Array.replicate L.toArray.size false) a w0 (by simp) hcount ?_
  obtain ⟨q, g1, g2, g3, g4⟩ := next_eff L _ 0 rfl (Nat.zero_le _)
  have bf : ∀ j, j < L.length → (Array.replicate L.toArray.size false).getD j true = false := fun j hj => by simp [hj]
  have lt : ∀ {i : Nat} {o : Oper}, L[i]? = some o → i < L.length := fun h => (List.getElem?_eq_some_iff.1 h).1
  have eff_lt : ∀ j, eff L j = true → j < L.length := fun j hj => by
    unfold eff at hj
    split at hj
    · rename_i o h1; exact lt h1
    · cases hj
  refine ⟨φ, q, fun j o hj hb => ?_, g2, fun j hj he => ?_, fun j hj he => bf j (eff_lt j he), g4, fun j o d hj hd hb => ?_, fun t _ => hr t, rfl, rfl, ?_, fun i hi _ => ?_, ?_⟩
  · simp only [bf j (lt hj)] at hb; cases hb
  · rw [g3 j (Nat.zero_le _) hj] at he; cases he
  · simp only [bf j (lt hj)] at hb; cases hb
  · refine (hs.heap hheap).weaken fun x e l hx => ?_
    by_cases h1 : x < s.size
    · right
      have := G_at HC HT g1 g2 g3 (x := x) (by rw [HT.s0]; exact h1)
      rw [this, HT.s0]
    · by_cases h2 : x < s'.size
      · rw [hf x e (by omega) h2] at hx; cases hx
      · left
        have hq := (keep_le HC HT g2 (Nat.le_refl _)).1
        rw [HT.sn] at hq
        unfold G
        rw [if_neg (by omega)]
        unfold Z
        rw [dif_neg]
        rintro ⟨i, hi, h3, h4⟩
        have := (keep_le HC HT (show i + 1 ≤ L.length by omega) (Nat.le_refl _)).1
        rw [HT.sn] at this
        omega
  · have k1 := (keep_le HC HT (Nat.zero_le i) (by omega)).1
    have k2 := (keep_le HC HT (show i + 1 ≤ L.length by omega) (Nat.le_refl _)).1
    rw [HT.s0] at k1
    rw [HT.sn] at k2
    exact hf.sub k1 k2
  · exact ⟨fun _ _ _ h => h, fun _ _ _ h => .inl h, rfl, rfl, rfl, Nat.le_refl _, fun _ _ _ => rfl⟩

include H HC in
theorem region_sound {L : List Oper} {draw : Bool} {ρ : Env} {s : St} {T : Env} {s' : St} {id : Nat} {Q : Exit → Act → World → Prop} (h : region call X L draw ρ s = some (T, s'))
    {φ : Phi} {a : Act} {w : World} {n : Nat} (ho : ∀ o ∈ L, operOk X n o = true) (hst : draw = true → statOk X L = true) (hn : n ≤ a.tmps.size) (hr : EnvRel φ ρ a) (hg : GlobOk X φ) (hs : SRel X φ s.get w) (hf : Fresh φ s.size s'.size)
    (hQ : ∀ φ' a' w', EnvRel φ' T a' → a'.tmps.size = a.tmps.size → a'.defers = a.defers → SRel X φ' s'.get w' → Step φ φ' s s' w w' → Q .normal a' w') : (Code.region id L.toArray draw).wp P Q a w := by
  unfold region at h
  split at h
  · cases h
  · rename_i T2 s2 hrun
    split at h
    · rename_i hd
      subst hd
      split at h
      · rename_i hc
        cases h
        exact draw_sound H HC hrun (hst rfl) hc ho hn hr hg hs hf hQ
      · cases h
    · rename_i hd
      obtain rfl : draw = false := by simpa using hd
      cases h
      exact wp_region_lit (runOps_sound H.toSound HC L ρ s φ a w _ _ hrun ho hn hr hg hs hf hQ)
include HC in
theorem region_keep {L : List Oper} {draw : Bool} {ρ : Env} {s : St} {T : Env} {s' : St} (h : region call X L draw ρ s = some (T, s')) : Keep s s' := by
  unfold region at h
  split at h
  · cases h
  · rename_i T2 s2 hrun
    have := runOps_keep HC _ _ _ _ _ hrun
    split at h
    · split at h
      · cases h; exact this
      · cases h
    · cases h; exact this
end
end Go.Proofs.Ytndedkpcfjnecaa.Ab
