import Derived.Test.YticllcglldbffaaDoorE10
namespace Go.Proofs.YticllcglldbffaaDoor.Ab
open Go.Proofs
set_option maxRecDepth 100000
set_option maxHeartbeats 4000000
set_option linter.unusedSimpArgs false
set_option linter.unusedVariables false
set_option linter.unnecessarySimpa false
set_option linter.unusedSectionVars false
def kj (s : List UInt8) : Prop := ∀ (i : Nat) (c : UInt8), s[i]? = some c → (c.toNat < 32 → c = 7 ∨ c = 10 ∨ c = 13 ∨ (c = 27 ∧ s[i + 1]? = some 91)) ∧ c.toNat ≠ 127
theorem kj.append {a b : List UInt8} (ha : kj a) (hb : kj b) : kj (a ++ b) := fun i c hc => by
  by_cases h : i < a.length
  · rw [List.getElem?_append_left h] at hc
    obtain ⟨h1, h2⟩ := ha i c hc
    refine ⟨fun hlt => ?_, h2⟩
    rcases h1 hlt with h | h | h | ⟨h, h3⟩
    · exact .inl h
    · exact .inr (.inl h)
    · exact .inr (.inr (.inl h))
    · have := (List.getElem?_eq_some_iff.1 h3).1
      exact .inr (.inr (.inr ⟨h, by rw [List.getElem?_append_left this]; exact h3⟩))
  · rw [List.getElem?_append_right (by omega)] at hc
    obtain ⟨h1, h2⟩ := hb _ c hc
    refine ⟨fun hlt => ?_, h2⟩
    rcases h1 hlt with h | h | h | ⟨h, h3⟩
    · exact .inl h
    · exact .inr (.inl h)
    · exact .inr (.inr (.inl h))
    · exact .inr (.inr (.inr ⟨h, by rw [List.getElem?_append_right (by omega), show i + 1 - a.length = i - a.length + 1 by omega]; exact h3⟩))
theorem kj.plain {s : List UInt8} (h : ∀ c ∈ s, 32 ≤ c.toNat ∧ c.toNat ≠ 127) : kj s := fun i c hc => by
  have := h c (List.mem_of_getElem? hc)
  exact ⟨fun hlt => by omega, this.2⟩
theorem Kn {v : Int} (h0 : 32 ≤ v) (h1 : v ≤ 1114111) (h2 : v ≠ 127) : ∀ c ∈ bv v, 32 ≤ c.toNat ∧ c.toNat ≠ 127 := by
  intro c hc
  have hv : ∀ n : Nat, n < 256 → c = UInt8.ofNat n → c.toNat = n := fun n hn e => by rw [e, aR hn]
  unfold bv at hc
  split at hc
  · rw [List.mem_singleton] at hc
    have := hv _ (by omega) hc
    omega
  · split at hc
    · simp only [List.mem_cons, List.not_mem_nil, or_false] at hc
      rcases hc with hc | hc <;> (have := hv _ (by omega) hc; omega)
    · split at hc
      · simp only [List.mem_cons, List.not_mem_nil, or_false] at hc
        rcases hc with hc | hc | hc <;> (have := hv _ (by omega) hc; omega)
      · simp only [List.mem_cons, List.not_mem_nil, or_false] at hc
        rcases hc with hc | hc | hc | hc <;> (have := hv _ (by omega) hc; omega)
theorem GV : ∀ t : List UInt8, (a8 t).all okV = true → ∀ c ∈ t, 32 ≤ c.toNat ∧ c.toNat ≠ 127 := by
  refine fo ?_ ?_
  · intro _ c hc; simp at hc
  · intro t ht ih ha c hc
    rw [br ht, List.all_cons, Bool.and_eq_true] at ha
    obtain ⟨r, e, hn, hcp⟩ := nZ ht ha.1
    have hov := oa ha.1
    rw [e] at hc
    rcases List.mem_append.1 hc with hc | hc
    · exact Kn hov.2.1 hcp.2.1 hov.2.2 c hc
    · refine ih ha.2 c ?_
      rw [hn]
      have : t.drop (bv (aU t).1).length = r := by
        obtain ⟨v, hv⟩ : ∃ v, v = (aU t).1 := ⟨_, rfl⟩
        rw [← hv] at e ⊢
        rw [e]
        exact List.drop_left' rfl
      rw [this]
      exact hc
theorem uH {o : Ot} (h : aW o = true) (h0 : o.1 ≠ 0) : ∀ c ∈ kJ o, 32 ≤ c.toNat ∧ c.toNat ≤ 126 := by
  obtain ⟨kd, n, m, t⟩ := o
  rw [jx h0] at h
  have hd : ∀ l : List UInt8, l.all CK = true → ∀ c ∈ l, 32 ≤ c.toNat ∧ c.toNat ≤ 126 := fun l hl c hc => by
    have := List.all_eq_true.1 hl c hc
    simp only [CK, Bool.and_eq_true, decide_eq_true_eq] at this
    omega
  intro c hc
  unfold kJ at hc
  simp only at hc
  split at hc
  · rename_i k1
    have a := (dy (n := n) (by omega) (by omega)).1
    have b := (dy (n := m) (by omega) (by omega)).1
    simp only [List.mem_append, List.mem_singleton] at hc
    rcases hc with ((hc | hc) | hc) | hc
    · exact hd _ a c hc
    · subst hc; decide
    · exact hd _ b c hc
    · subst hc; decide
  · split at hc
    · simp only [List.mem_cons, List.not_mem_nil, or_false] at hc
      rcases hc with hc | hc <;> (subst hc; decide)
    · split at hc
      · simp only [List.mem_cons, List.not_mem_nil, or_false] at hc
        subst hc; decide
      · split at hc
        · have : ((List.range 8).all fun (a : Nat) => (aZ (a : Int)).all fun c => decide (32 ≤ c.toNat) && decide (c.toNat ≤ 126)) = true := by decide
          rename_i k4
          obtain ⟨a, rfl⟩ := Int.eq_ofNat_of_zero_le (by omega : 0 ≤ n)
          have := List.all_eq_true.1 (List.all_eq_true.1 this a (List.mem_range.2 (by omega))) c hc
          simpa using this
        · split at hc
          · simp only [List.mem_cons, List.not_mem_nil, or_false] at hc
            rcases hc with hc | hc | hc | hc | hc | hc <;> (subst hc; decide)
          · simp only [List.mem_cons, List.not_mem_nil, or_false] at hc
            rcases hc with hc | hc | hc | hc | hc | hc <;> (subst hc; decide)
theorem Ta {o : Ot} (h : aW o = true) : kj (aL o) := by
  by_cases h0 : o.1 = 0
  · obtain ⟨e, ht, ha⟩ := d9 h h0
    unfold aL
    rw [if_pos h0]
    exact kj.plain (GV _ ha)
  · have hs := uH h h0
    unfold aL
    rw [if_neg h0]
    have one : ∀ d : UInt8, d = 7 ∨ d = 10 ∨ d = 13 → kj [d] := fun d hd i c hc => by
      cases i with
      | zero =>
        simp only [List.getElem?_cons_zero, Option.some.injEq] at hc
        subst hc
        rcases hd with rfl | rfl | rfl <;> exact ⟨fun _ => by decide, by decide⟩
      | succ i => simp at hc
    split
    · exact one 7 (.inl rfl)
    · split
      · exact one 13 (.inr (.inr rfl))
      · split
        · exact one 10 (.inr (.inl rfl))
        · refine kj.append (fun i c hc => ?_) (kj.plain fun c hc => by have := hs c hc; omega)
          match i, hc with
          | 0, hc =>
            simp only [List.getElem?_cons_zero, Option.some.injEq] at hc
            subst hc
            exact ⟨fun _ => .inr (.inr (.inr ⟨rfl, rfl⟩)), by decide⟩
          | 1, hc =>
            simp only [List.getElem?_cons_succ, List.getElem?_cons_zero, Option.some.injEq] at hc
            subst hc
            exact ⟨fun h => absurd h (by decide), by decide⟩
          | i + 2, hc => simp at hc
theorem IK : ∀ {l : List Ot}, (∀ o ∈ l, aW o = true) → kj (bd l)
  | [], _ => fun i c hc => by simp [bd] at hc
  | o :: l, h => by
    rw [dv]
    exact (Ta (h o (by simp))).append (IK fun x hx => h x (by simp [hx]))
theorem XV {a : List UInt8} (h : ∀ c ∈ a, c.toNat < 128) (r : List UInt8) : a8 (a ++ r) = (a.map fun c => (c.toNat : Int)) ++ a8 r := by
  induction a with
  | nil => rfl
  | cons c a ih =>
    rw [List.cons_append, br (by simp), vk (h c (by simp))]
    simp only [List.drop_succ_cons, List.drop_zero, List.map_cons, List.cons_append]
    rw [ih fun d hd => h d (by simp [hd])]
theorem akE : aB 7 ≤ 4 ∧ aB 10 ≤ 4 ∧ aB 13 ≤ 4 ∧ aB 27 ≤ 4 ∧ aB 91 ≤ 4 := by decide +kernel
theorem I4 : ∀ {l : List Ot}, (∀ o ∈ l, aW o = true) → ∀ v ∈ a8 (bd l), aB v ≤ 4
  | [], _, v, hv => by simp [bd, dD] at hv
  | o :: l, h, v, hv => by
    have ho := h o (by simp)
    have ih := I4 (l := l) fun x hx => h x (by simp [hx])
    rw [dv] at hv
    by_cases h0 : o.1 = 0
    · obtain ⟨e, ht, ha⟩ := d9 ho h0
      have hb : aL o = o.2.2.2 := by unfold aL; rw [if_pos h0]
      rw [hb, ng _ _ ha] at hv
      rcases List.mem_append.1 hv with hv | hv
      · have := List.all_eq_true.1 ha v hv
        simp only [okV, Bool.and_eq_true, decide_eq_true_eq] at this
        omega
      · exact ih v hv
    · have hs := uH ho h0
      have key : ∀ c ∈ aL o, c.toNat < 128 ∧ aB (c.toNat : Int) ≤ 4 := fun c hc => by
        obtain ⟨c1, c2, c3, c4, c5⟩ := akE
        unfold aL at hc
        rw [if_neg h0] at hc
        split at hc
        · rw [List.mem_singleton] at hc; subst hc; exact ⟨by decide, c1⟩
        · split at hc
          · rw [List.mem_singleton] at hc; subst hc; exact ⟨by decide, c3⟩
          · split at hc
            · rw [List.mem_singleton] at hc; subst hc; exact ⟨by decide, c2⟩
            · simp only [List.mem_append, List.mem_cons, List.not_mem_nil, or_false] at hc
              rcases hc with (hc | hc) | hc
              · subst hc; exact ⟨by decide, c4⟩
              · subst hc; exact ⟨by decide, c5⟩
              · have := hs c hc
                have hd := Td (v := (c.toNat : Int)) (by omega) (by omega)
                simp only [EN, decide_eq_false_iff_not] at hd
                exact ⟨by omega, by omega⟩
      rw [XV (fun c hc => (key c hc).1)] at hv
      rcases List.mem_append.1 hv with hv | hv
      · obtain ⟨c, hc, rfl⟩ := List.mem_map.1 hv
        exact (key c hc).2
      · exact ih v hv
end Go.Proofs.YticllcglldbffaaDoor.Ab
