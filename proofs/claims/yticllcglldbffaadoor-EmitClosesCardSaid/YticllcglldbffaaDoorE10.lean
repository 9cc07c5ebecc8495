import Derived.Test.YticllcglldbffaaDoorE9
namespace Go.Proofs.YticllcglldbffaaDoor.Ab
open Go.Proofs
set_option maxRecDepth 100000
set_option maxHeartbeats 4000000
set_option linter.unusedSimpArgs false
set_option linter.unusedVariables false
set_option linter.unnecessarySimpa false
set_option linter.unusedSectionVars false
theorem Sv {o : Ot} (h : aW o = true) : o.2.2.2.length ≤ (aL o).length ∧ 1 ≤ (aL o).length := by
  have hne := wK h
  have : 1 ≤ (aL o).length := by cases hb : aL o with | nil => exact absurd hb hne | cons a l => simp
  refine ⟨?_, this⟩
  by_cases h0 : o.1 = 0
  · unfold aL
    rw [if_pos h0]
    exact Nat.le_refl _
  · rw [(u3 h h0).2.2.1]
    exact Nat.zero_le _
theorem nM : ∀ {l : List Ot}, (∀ o ∈ l, aW o = true) → l.length ≤ (bd l).length ∧ ∀ o ∈ l, o.2.2.2.length ≤ (bd l).length
  | [], _ => ⟨by simp [bd], by simp⟩
  | o :: l, h => by
    have h1 := Sv (h o (by simp))
    have h2 := nM (l := l) fun x hx => h x (by simp [hx])
    rw [dv, List.length_append]
    refine ⟨by rw [List.length_cons]; omega, fun x hx => ?_⟩
    rcases List.mem_cons.1 hx with rfl | hx
    · omega
    · have := h2.2 x hx
      omega
section
variable {k : Nat → List Value → Option Value} (hk : ∀ f, f ≠ 105 → f ≠ 149 → ax k f)
include hk
theorem wj (hix : ∀ (l : List UInt8) (c : UInt8), PC (XK k) 149 [tx l, tx [c]] (.c (.int .i64 (Lib.indexByte l c)))) (ha : k 22 [] = some (.bool true)) (b : ByteArray) (st : VS) : VC (XK k) 6 [.c (.string b)] st (fun r _ => r = .c (.bool true)) := by
  refine avW (hk _ (by decide) (by decide)) ?_
  have haw : ∀ {vs : VS} {Q : AV → VS → Prop}, Q (.c (.bool true)) vs → VC (XK k) 22 [] vs Q := fun h => gX (ws := []) (v := .bool true) ha rfl rfl h
  obtain ⟨s, rfl⟩ : ∃ s : List UInt8, b = ⟨s.toArray⟩ := ⟨b.data.toList, by simp⟩
  by_cases hl : s.length ≤ 500
  · have w1 := gK hk hix s (by omega)
    have w2 := lM hk hix s (by omega)
    cases hq : bC s with
    | none =>
      rw [hq] at w1 w2
      repeat' (first | ((first | apply ao | apply aj | apply am | apply al | apply an | apply ak | apply ai | apply ag | apply ah) <;> intro hc <;> (try (simp -implicitDefEqProofs (maxSteps := 2000000) (disch := first | omega | (simp only [ac, ae, ab]; first | done | omega)) only [push_cast, seval, Sr, Sj, Si, hc, dZ])) <;> (try (exfalso; omega))) | refine ap (w1) ?_ | refine ap (w2) ?_ | refine haw ?_ | (simp -implicitDefEqProofs (maxSteps := 2000000) (disch := first | omega | (simp only [ac, ae, ab]; first | done | omega)) only [push_cast, seval, Sr, Sj, Si, dZ]))
      all_goals (try (exfalso; omega))
    | some l =>
      rw [hq] at w1 w2
      obtain ⟨p1, p2, p3⟩ := nS hq
      have hge := nM p1
      rw [p2] at hge
      have hall : l.all aW = true := List.all_eq_true.2 p1
      have w3 := H1 hk l (by omega) (fun o ho => by have := hge.2 o ho; omega)
      rw [hall] at w3
      have w4 := wB hk l hall (by omega) (fun o ho => by have := hge.2 o ho; omega)
      rw [p2] at w4
      have w5 := lO hk l (by omega) (fun o ho => by have := hge.2 o ho; omega)
      rw [p3] at w5
      have w6 := ja hk l l (by omega)
      rw [decide_eq_true rfl] at w6
      repeat' (first | ((first | apply ao | apply aj | apply am | apply al | apply an | apply ak | apply ai | apply ag | apply ah) <;> intro hc <;> (try (simp -implicitDefEqProofs (maxSteps := 2000000) (disch := first | omega | (simp only [ac, ae, ab]; first | done | omega)) only [push_cast, seval, Sr, Sj, Si, hc, dZ])) <;> (try (exfalso; omega))) | refine ap (w1) ?_ | refine ap (w2) ?_ | refine ap (w3) ?_ | refine ap (w4) ?_ | refine ap (w5) ?_ | refine ap (w6) ?_ | refine haw ?_ | (simp -implicitDefEqProofs (maxSteps := 2000000) (disch := first | omega | (simp only [ac, ae, ab]; first | done | omega)) only [push_cast, seval, Sr, Sj, Si, dZ]))
      all_goals (try (exfalso; omega))
  · repeat' (first | ((first | apply ao | apply aj | apply am | apply al | apply an | apply ak | apply ai | apply ag | apply ah) <;> intro hc <;> (try (simp -implicitDefEqProofs (maxSteps := 2000000) (disch := first | omega | (simp only [ac, ae, ab]; first | done | omega)) only [push_cast, seval, Sr, Sj, Si, hc])) <;> (try (exfalso; omega))) | refine haw ?_ | (simp -implicitDefEqProofs (maxSteps := 2000000) (disch := first | omega | (simp only [ac, ae, ab]; first | done | omega)) only [push_cast, seval, Sr, Sj, Si]))
    all_goals (try (exfalso; omega))
end
end Go.Proofs.YticllcglldbffaaDoor.Ab
