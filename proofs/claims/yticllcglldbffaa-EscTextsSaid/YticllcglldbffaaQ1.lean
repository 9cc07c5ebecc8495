/- A history's lines, plainly: each value's letters, and that they tell it. -/
import Derived.Test.YticllcglldbffaaN2
namespace Go.Proofs.Yticllcglldbffaa.Ab
open Go.Proofs
set_option maxRecDepth 100000
set_option linter.unusedSimpArgs false
set_option linter.unusedVariables false
set_option linter.unnecessarySimpa false
set_option linter.unusedSectionVars false
theorem right_rg {v : Int} (h : right v = true) : 0 ≤ v ∧ v ≤ 1114367 := by
  unfold right at h
  simp only [Bool.or_eq_true, Bool.and_eq_true, decide_eq_true_eq, Bool.not_eq_true', Bool.and_eq_false_iff, decide_eq_false_iff_not] at h
  omega
def escV (v : Int) : List UInt8 := if v = 92 then [92, 92] else if 32 ≤ v ∧ v ≤ 126 then [UInt8.ofNat v.toNat] else [92, 117] ++ hexP v.toNat 6
def escL (l : List Int) : List UInt8 := l.flatMap escV
theorem digs16_six {n : Nat} (h : n < 16777216) : (digs 16 n).length ≤ 6 := by
  by_cases h1 : n < 16
  · rw [digs_lt h1]; simp
  · rw [digs_ge (by omega) (by omega), List.length_append, List.length_singleton]
    by_cases h2 : n / 16 < 16
    · rw [digs_lt h2]; simp
    · rw [digs_ge (by omega) (by omega), List.length_append, List.length_singleton]
      by_cases h3 : n / 16 / 16 < 16
      · rw [digs_lt h3]; simp
      · rw [digs_ge (by omega) (by omega), List.length_append, List.length_singleton]
        by_cases h4 : n / 16 / 16 / 16 < 16
        · rw [digs_lt h4]; simp
        · rw [digs_ge (by omega) (by omega), List.length_append, List.length_singleton]
          by_cases h5 : n / 16 / 16 / 16 / 16 < 16
          · rw [digs_lt h5]; simp
          · rw [digs_ge (by omega) (by omega), List.length_append, List.length_singleton, digs_lt (by omega)]; simp
theorem hex6_len {n : Nat} (h : n < 16777216) : (hexP n 6).length = 6 := by
  unfold hexP
  have := digs16_six h
  rw [List.length_append, List.length_replicate]
  omega
theorem hexI_six {v : Int} (h : right v = true) : hexI v 6 = hexP v.toNat 6 := by
  have := right_rg h
  unfold hexI
  rw [if_neg (by omega)]
  rfl
theorem escV_len {v : Int} (h : right v = true) : 1 ≤ (escV v).length ∧ (escV v).length ≤ 8 := by
  have := right_rg h
  unfold escV
  (repeat' split)
  · simp
  · simp
  · rw [List.length_append, hex6_len (by omega)]; simp
theorem escL_cons (v : Int) (l : List Int) : escL (v :: l) = escV v ++ escL l := rfl
theorem escL_snoc (l : List Int) (v : Int) : escL (l ++ [v]) = escL l ++ escV v := by simp [escL]
theorem escL_len {l : List Int} (h : l.all right = true) : l.length ≤ (escL l).length ∧ (escL l).length ≤ 8 * l.length := by
  induction l with
  | nil => simp [escL]
  | cons a l ih =>
    rw [List.all_cons, Bool.and_eq_true] at h
    have h1 := ih h.2
    have h2 := escV_len h.1
    rw [escL_cons, List.length_append, List.length_cons]
    omega
theorem escV_bytes {v : Int} (h : right v = true) : ∀ c ∈ escV v, 32 ≤ c.toNat ∧ c.toNat ≤ 126 := by
  intro c hc
  unfold escV at hc
  split at hc
  · simp only [List.mem_cons, List.not_mem_nil, or_false, or_self] at hc
    subst hc; decide
  · split at hc
    · simp only [List.mem_singleton] at hc
      subst hc
      rw [UInt8.toNat_ofNat_of_lt' (by simp; omega)]
      omega
    · rw [List.mem_append] at hc
      rcases hc with hc | hc
      · simp only [List.mem_cons, List.not_mem_nil, or_false] at hc
        rcases hc with hc | hc <;> (subst hc; decide)
      · have := List.all_eq_true.1 (hexP_all v.toNat 6) c hc
        simp only [digB, Bool.and_eq_true, decide_eq_true_eq] at this
        omega
theorem escL_bytes {l : List Int} (h : l.all right = true) : ∀ c ∈ escL l, 32 ≤ c.toNat ∧ c.toNat ≤ 126 := by
  intro c hc
  unfold escL at hc
  rw [List.mem_flatMap] at hc
  obtain ⟨v, hv, hc⟩ := hc
  exact escV_bytes (List.all_eq_true.1 h v hv) c hc
/-- A value's letters tell it. -/
theorem escV_cancel {v w : Int} {r q : List UInt8} (hv : right v = true) (hw : right w = true) (h : escV v ++ r = escV w ++ q) : v = w ∧ r = q := by
  have a := right_rg hv
  have b := right_rg hw
  have one : ∀ {v : Int}, (32 ≤ v ∧ v ≤ 126) → (UInt8.ofNat v.toNat).toNat = v.toNat := fun {v} hv => UInt8.toNat_ofNat_of_lt' (by simp; omega)
  have ne92 : ∀ {v : Int}, ¬ v = 92 → (32 ≤ v ∧ v ≤ 126) → UInt8.ofNat v.toNat ≠ 92 := fun {v} h1 h2 e => by
    have := congrArg UInt8.toNat e
    rw [one h2] at this
    simp at this
    omega
  unfold escV at h
  by_cases v1 : v = 92
  · rw [if_pos v1] at h
    by_cases w1 : w = 92
    · rw [if_pos w1] at h
      simp at h
      exact ⟨by omega, h⟩
    · rw [if_neg w1] at h
      by_cases w2 : 32 ≤ w ∧ w ≤ 126
      · rw [if_pos w2] at h
        exact absurd (List.cons.inj h).1.symm (ne92 w1 w2)
      · rw [if_neg w2] at h
        simp at h
  · rw [if_neg v1] at h
    by_cases v2 : 32 ≤ v ∧ v ≤ 126
    · rw [if_pos v2] at h
      by_cases w1 : w = 92
      · rw [if_pos w1] at h
        exact absurd (List.cons.inj h).1 (ne92 v1 v2)
      · rw [if_neg w1] at h
        by_cases w2 : 32 ≤ w ∧ w ≤ 126
        · rw [if_pos w2] at h
          have h1 := congrArg UInt8.toNat (List.cons.inj h).1
          rw [one v2, one w2] at h1
          exact ⟨by omega, (List.cons.inj h).2⟩
        · rw [if_neg w2] at h
          exact absurd (List.cons.inj h).1 (ne92 v1 v2)
    · rw [if_neg v2] at h
      by_cases w1 : w = 92
      · rw [if_pos w1] at h
        simp at h
      · rw [if_neg w1] at h
        by_cases w2 : 32 ≤ w ∧ w ≤ 126
        · rw [if_pos w2] at h
          exact absurd (List.cons.inj h).1.symm (ne92 w1 w2)
        · rw [if_neg w2] at h
          simp only [List.append_assoc, List.cons_append, List.nil_append, List.cons.injEq, true_and] at h
          have h1 := List.append_inj h (by rw [hex6_len (by omega), hex6_len (by omega)])
          have h2 := hexP_inj h1.1
          exact ⟨by omega, h1.2⟩
theorem escL_inj : ∀ {a b : List Int}, a.all right = true → b.all right = true → escL a = escL b → a = b
  | [], [], _, _, _ => rfl
  | [], w :: b, _, hb, h => by
    rw [List.all_cons, Bool.and_eq_true] at hb
    have := congrArg List.length h
    rw [escL_cons, List.length_append] at this
    have h1 := (escV_len hb.1).1
    rw [show escL [] = [] from rfl, List.length_nil] at this
    omega
  | v :: a, [], ha, _, h => by
    rw [List.all_cons, Bool.and_eq_true] at ha
    have := congrArg List.length h
    rw [escL_cons, List.length_append] at this
    have h1 := (escV_len ha.1).1
    rw [show escL [] = [] from rfl, List.length_nil] at this
    omega
  | v :: a, w :: b, ha, hb, h => by
    rw [List.all_cons, Bool.and_eq_true] at ha hb
    rw [escL_cons, escL_cons] at h
    obtain ⟨rfl, h2⟩ := escV_cancel ha.1 hb.1 h
    rw [escL_inj ha.2 hb.2 h2]
end Go.Proofs.Yticllcglldbffaa.Ab
