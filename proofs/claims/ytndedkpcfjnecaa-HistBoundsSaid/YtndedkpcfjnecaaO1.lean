/- Stacks: slices of the run's own that grow, and shrink. -/
import Derived.Test.YtndedkpcfjnecaaL1
namespace Go.Proofs.Ytndedkpcfjnecaa.Ab
open Go.Proofs
set_option maxRecDepth 100000
set_option maxHeartbeats 4000000
set_option linter.unusedSimpArgs false
set_option linter.unusedVariables false
set_option linter.unnecessarySimpa false
set_option linter.unusedSectionVars false
/-- A slice of the run's own, of these elements; behind them may lie more. -/
inductive Gt {α : Type} (f : α → List AV) (s0 s : VS) (e sz : Nat) : AV → List α → Prop
  | nil : Gt f s0 s e sz (.c (.slice none 0 0)) []
  | row (b : Nat) (sp : Option Nat) (n N : Nat) (l : List α) (zs : List AV) : s.get b = some (.own ⟨(l.map f).flatten ++ zs, e, sp.getD 0, 0, false⟩) → s0.size ≤ b → n = l.length → ((l.map f).flatten ++ zs).length = N * sz → n ≤ N → Gt f s0 s e sz (.sl ⟨b, 0, sp⟩ n (capO N)) l
section
variable {α : Type} {f : α → List AV} {s0 s : VS} {e sz : Nat} {v : AV} {l : List α}
theorem Gt.blk (h : Gt f s0 s e sz v l) {b : Nat} (hb : blkOf v = some b) : s0.size ≤ b ∧ b < s.size ∧ ∃ r, s.get b = some (.own r) ∧ r.elem = e := by
  cases h with
  | nil => simp [blkOf] at hb
  | row b' sp n N l zs h1 h2 h3 h4 h5 => simp [blkOf] at hb; subst hb; exact ⟨h2, VS.lt_of_get h1, _, h1, rfl⟩
theorem Gt.get {s' : VS} (h : Gt f s0 s e sz v l) (hg : ∀ b, blkOf v = some b → s'.get b = s.get b) : Gt f s0 s' e sz v l := by
  cases h with
  | nil => exact .nil
  | row b sp n N l zs h1 h2 h3 h4 h5 => exact .row b sp n N l zs ((hg b rfl).trans h1) h2 h3 h4 h5
theorem Gt.push (h : Gt f s0 s e sz v l) (o : VO) : Gt f s0 (s.push o) e sz v l := h.get fun b hb => gp_ne (by have := (h.blk hb).2.1; omega)
theorem Gt.set (h : Gt f s0 s e sz v l) {c : Nat} (hc : blkOf v ≠ some c) (o : VO) : Gt f s0 (s.set c o) e sz v l := h.get fun b hb => gs_ne (by rintro rfl; exact hc hb)
theorem Gt.drop (h : Gt f s0 s e sz v l) {c : Nat} (hc : blkOf v ≠ some c) : Gt f s0 (s.drop (· = c)) e sz v l := h.get fun b hb => drop_ne (by rintro rfl; exact hc hb)
theorem Gt.lenA {X : Prg} (h : Gt f s0 s e sz v l) {t e1 b c : Nat} {z : Value} (ht : X.ty t = some ⟨.slice e1, b, c, z⟩) (s2 : VS) : lenA X t v s2 = some (l.length : Int) := by
  cases h with
  | nil => simp only [Ab.lenA, ht]; rfl
  | row b sp n N l zs h1 h2 h3 h4 h5 => simp only [Ab.lenA, ht, h3]
theorem Gt.isSl (h : Gt f s0 s e sz v l) (hl : l ≠ []) : ∃ a c, v = .sl a l.length c := by
  cases h with
  | nil => exact absurd rfl hl
  | row b sp n N l zs h1 h2 h3 h4 h5 => subst h3; exact ⟨_, _, rfl⟩
/-- One more. -/
theorem Gt.append1 {te : Ty} (h : Gt f s0 s e sz v l) (hf : ∀ x, (f x).length = sz) (a : α) (hk : s0.size ≤ s.size) (hz : te.size = sz) (ho : (f a).all oneA = true) (hr : roomOk (l.length + 1) te.bytes = true) :
    ∃ v' s', appendToA te e 1 (f a) v s = some (v', s') ∧ Gt f s0 s' e sz v' (l ++ [a]) ∧ But s s' v ∧ (∀ b, b < s.size → blkOf v' = some b → blkOf v = some b) ∧ ∃ a' c', v' = .sl a' (l.length + 1) c' := by
  cases h with
  | nil =>
    refine ⟨.sl ⟨s.size, 0, none⟩ 1 (capO 1), s.push (.own ⟨f a, e, 0, 0, false⟩), by simp only [appendToA]; rw [if_neg (by omega), if_pos (by simpa using hr)], .row s.size none 1 1 [a] [] (by simp only [List.map_cons, List.map_nil, List.flatten_cons, List.flatten_nil, List.append_nil]; exact gp_eq rfl) hk rfl (by simp [hf]) (Nat.le_refl _), But.push _ _, fun b hb h => by simp [blkOf] at h; omega, ⟨_, _, rfl⟩⟩
  | row b sp n N l zs h1 h2 h3 h4 h5 =>
    subst h3
    have hb := VS.lt_of_get h1
    have hfl := flat_lenf hf l
    by_cases hN : l.length + 1 ≤ N
    · have hle : (l.length + 1) * sz ≤ N * sz := Nat.mul_le_mul_right sz hN
      rw [Nat.add_mul, Nat.one_mul] at hle
      have hwr : s.wr (Addr.fwd ⟨b, 0, sp⟩ (l.length * te.size)) (f a) = some (s.set b (.own ⟨overA ((l.map f).flatten ++ zs) (l.length * sz) (f a), e, sp.getD 0, 0, false⟩)) := by
        rw [show Addr.fwd ⟨b, 0, sp⟩ (l.length * te.size) = ⟨b, l.length * sz, sp⟩ by simp [Addr.fwd, hz], wr_mkA, h1, wv_own, if_pos ⟨rfl, by rw [h4, hf]; exact hle, Nat.zero_le _, rfl, ho⟩]
      refine ⟨.sl ⟨b, 0, sp⟩ (l.length + 1) (capO N), _, by simp only [appendToA, capO_half, if_pos hN, hwr, Option.map_some]; rw [if_neg (by omega)], ?_, ?_, fun c _ h => by simpa [blkOf] using h, ⟨_, _, rfl⟩⟩
      · refine .row b sp (l.length + 1) N (l ++ [a]) (zs.drop sz) ?_ h2 (by simp) ?_ hN
        · rw [over_fill hfl, hf]
          simp only [List.map_append, List.map_cons, List.map_nil, List.flatten_append, List.flatten_cons, List.flatten_nil, List.append_nil]
          exact gs_eq rfl hb
        · rw [List.length_append, hfl] at h4
          simp only [List.map_append, List.map_cons, List.map_nil, List.flatten_append, List.flatten_cons, List.flatten_nil, List.append_nil, List.length_append, hfl, hf, List.length_drop]
          omega
      · refine ⟨by rw [vz_set]; exact Nat.le_refl _, fun c hc' hne => ?_⟩
        have : c ≠ b := by rintro rfl; exact hne rfl
        exact ⟨gs_ne this, vs_ver this⟩
    · have hNl : N = l.length := by omega
      subst hNl
      have hzs : zs = [] := by
        rw [List.length_append, hfl] at h4
        exact List.eq_nil_of_length_eq_zero (by omega)
      subst hzs
      rw [List.append_nil] at h1 h4
      have hc : roomOk (l.length + 1) te.bytes = true ∧ ep (⟨b, 0, sp⟩ : Addr) = sp.getD 0 ∧ (⟨b, 0, sp⟩ : Addr).off = 0 ∧ (l.map f).flatten.length = l.length * te.size ∧ e = e ∧ (f a).all oneA = true ∧ 0 ≤ l.length * te.size ∧ false = false := ⟨hr, rfl, rfl, by rw [hz]; exact h4, rfl, ho, Nat.zero_le _, rfl⟩
      refine ⟨.sl ⟨b, 0, some (sp.getD 0 + 1)⟩ (l.length + 1) (capO (l.length + 1)), s.set b (.own ⟨(l.map f).flatten ++ f a, e, sp.getD 0 + 1, 0, false⟩), ?_, ?_, ?_, fun c _ h => by simpa [blkOf] using h, ⟨_, _, rfl⟩⟩
      · simp only [appendToA, capO_half, capO_mod]
        rw [if_neg (by omega), if_neg (by omega), if_neg (by omega)]
        simp only [h1]
        exact if_pos (by simpa using hc)
      · refine .row b (some (sp.getD 0 + 1)) (l.length + 1) (l.length + 1) (l ++ [a]) [] ?_ h2 (by simp) ?_ (Nat.le_refl _)
        · simp only [List.map_append, List.map_cons, List.map_nil, List.flatten_append, List.flatten_cons, List.flatten_nil, List.append_nil]
          exact gs_eq rfl hb
        · rw [List.append_nil, flat_lenf hf, List.length_append]
          rfl
      · refine ⟨by rw [vz_set]; exact Nat.le_refl _, fun c hc' hne => ?_⟩
        have : c ≠ b := by rintro rfl; exact hne rfl
        exact ⟨gs_ne this, vs_ver this⟩
theorem flat_take (hf : ∀ x, (f x).length = sz) (l : List α) (i : Nat) (hi : i ≤ l.length) : (l.map f).flatten.take (i * sz) = ((l.take i).map f).flatten := by
  have : (l.map f).flatten = ((l.take i).map f).flatten ++ ((l.drop i).map f).flatten := by
    conv => lhs; rw [← List.take_append_drop i l]
    rw [List.map_append, List.flatten_append]
  rw [this, List.take_left' (by rw [flat_lenf hf, List.length_take, Nat.min_eq_left hi])]
theorem flat_drop (hf : ∀ x, (f x).length = sz) (l : List α) (i : Nat) (hi : i ≤ l.length) : (l.map f).flatten.drop (i * sz) = ((l.drop i).map f).flatten := by
  have : (l.map f).flatten = ((l.take i).map f).flatten ++ ((l.drop i).map f).flatten := by
    conv => lhs; rw [← List.take_append_drop i l]
    rw [List.map_append, List.flatten_append]
  rw [this, List.drop_left' (by rw [flat_lenf hf, List.length_take, Nat.min_eq_left hi])]
/-- What slices.Delete appends: all behind a place, from that place on. -/
theorem del_app {te : Ty} {b i N : Nat} {sp : Option Nat} {zs : List AV} (hf : ∀ x, (f x).length = sz) (hz : te.size = sz) (h1 : s.get b = some (.own ⟨(l.map f).flatten ++ zs, e, sp.getD 0, 0, false⟩)) (h4 : ((l.map f).flatten ++ zs).length = N * sz) (h5 : l.length ≤ N) (hi : i < l.length) (ho : ∀ x, (f x).all oneA = true) :
    ∃ s1 R, appendToA te e (l.length - (i + 1)) (((l.drop (i + 1)).map f).flatten) (.sl ⟨b, 0, sp⟩ i (capO N)) s = some (.sl ⟨b, 0, sp⟩ (l.length - 1) (capO N), s1) ∧ s1.get b = some (.own ⟨((l.eraseIdx i).map f).flatten ++ R, e, sp.getD 0, 0, false⟩) ∧ R.length = sz + zs.length ∧ (∀ c, c ≠ b → s1.get c = s.get c ∧ s1.ver c = s.ver c) ∧ s1.size = s.size := by
  have hb := VS.lt_of_get h1
  have hfl := flat_lenf hf l
  have hfd := flat_lenf hf (l.drop (i + 1))
  have hft := flat_lenf hf (l.take i)
  rw [List.length_drop] at hfd
  rw [List.length_take, Nat.min_eq_left (by omega)] at hft
  have her : l.eraseIdx i = l.take i ++ l.drop (i + 1) := List.eraseIdx_eq_take_drop_succ l i
  have hsp : (l.map f).flatten = ((l.take i).map f).flatten ++ (l.map f).flatten.drop (i * sz) := by
    conv => lhs; rw [← List.take_append_drop (i * sz) (l.map f).flatten]
    rw [flat_take hf l i (by omega)]
  have hlen : (l.length - (i + 1)) * sz + (i + 1) * sz = l.length * sz := by rw [← Nat.add_mul]; congr 1; omega
  have hi1 : (i + 1) * sz = i * sz + sz := by rw [Nat.add_mul, Nat.one_mul]
  by_cases hl : l.length = i + 1
  · refine ⟨s, (l.map f).flatten.drop (i * sz) ++ zs, ?_, ?_, ?_, fun c _ => ⟨rfl, rfl⟩, rfl⟩
    · simp only [appendToA, hl, Nat.sub_self, if_true]
      congr 3
    · rw [her, List.drop_eq_nil_of_le (by omega), List.append_nil, ← List.append_assoc, ← hsp]
      exact h1
    · rw [List.length_append, List.length_drop, hfl]
      rw [hl, hi1]
      omega
  · have hle : l.length * sz ≤ N * sz := Nat.mul_le_mul_right sz h5
    have hall : (((l.drop (i + 1)).map f).flatten).all oneA = true := ones_map ho
    have hwr : s.wr (Addr.fwd ⟨b, 0, sp⟩ (i * te.size)) ((l.drop (i + 1)).map f).flatten = some (s.set b (.own ⟨overA ((l.map f).flatten ++ zs) (i * sz) ((l.drop (i + 1)).map f).flatten, e, sp.getD 0, 0, false⟩)) := by
      rw [show Addr.fwd ⟨b, 0, sp⟩ (i * te.size) = ⟨b, i * sz, sp⟩ by simp [Addr.fwd, hz], wr_mkA, h1, wv_own, if_pos ⟨rfl, by rw [h4, hfd]; omega, Nat.zero_le _, rfl, hall⟩]
    refine ⟨_, ((l.map f).flatten.drop (i * sz) ++ zs).drop ((l.length - (i + 1)) * sz), by simp only [appendToA, capO_half, hwr, Option.map_some]; rw [if_neg (by omega), if_pos (by omega)]; congr 3; omega, ?_, ?_, fun c hc => ⟨gs_ne hc, vs_ver hc⟩, by rw [vz_set]⟩
    · have e1 : overA ((l.map f).flatten ++ zs) (i * sz) ((l.drop (i + 1)).map f).flatten = ((l.eraseIdx i).map f).flatten ++ ((l.map f).flatten.drop (i * sz) ++ zs).drop ((l.length - (i + 1)) * sz) := by
        conv => lhs; rw [hsp, List.append_assoc]
        rw [over_fill hft, her, hfd]
        simp only [List.map_append, List.flatten_append, List.append_assoc]
      rw [e1]
      exact gs_eq rfl hb
    · rw [List.length_drop, List.length_append, List.length_drop, hfl]
      omega
end
end Go.Proofs.Ytndedkpcfjnecaa.Ab
