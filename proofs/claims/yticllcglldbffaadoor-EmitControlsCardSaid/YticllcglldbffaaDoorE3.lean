import Derived.Test.YticllcglldbffaaDoorE2
namespace Go.Proofs.YticllcglldbffaaDoor.Ab
open Go.Proofs
set_option maxRecDepth 100000
set_option maxHeartbeats 4000000
set_option linter.unusedSimpArgs false
set_option linter.unusedVariables false
set_option linter.unnecessarySimpa false
set_option linter.unusedSectionVars false
def bC (s : List UInt8) : Option (List Ot) := if s = [] then some [] else match dU s with
  | none => none
  | some (o, n) => if h : 0 < n ∧ n ≤ s.length then (bC (s.drop n)).map (o :: ·) else none
termination_by s.length
decreasing_by
  rw [List.length_drop]
  omega
theorem nB : bC [] = some [] := by rw [bC, if_pos rfl]
theorem qy {s : List UInt8} (h : s ≠ []) (hp : dU s = none) : bC s = none := by rw [bC, if_neg h, hp]
theorem kM {s : List UInt8} {o : Ot} {n : Nat} (h : s ≠ []) (hp : dU s = some (o, n)) : bC s = (bC (s.drop n)).map (o :: ·) := by
  have := kV hp
  rw [bC, if_neg h, hp]
  exact dif_pos ⟨this.2.2.1, this.2.2.2.1⟩
def NJ (l : List Ot) : Prop := ∀ i x y, l[i]? = some x → l[i + 1]? = some y → ¬ (x.1 = 0 ∧ y.1 = 0)
theorem NJ.tail {o : Ot} {l : List Ot} (h : NJ (o :: l)) : NJ l := fun i x y hx hy => h (i + 1) x y (by simpa using hx) (by simpa using hy)
theorem dv (o : Ot) (l : List Ot) : bd (o :: l) = aL o ++ bd l := by simp [bd]
theorem fh (l : List Ot) (o : Ot) : bd (l ++ [o]) = bd l ++ aL o := by simp [bd]
theorem wK {o : Ot} (h : aW o = true) : aL o ≠ [] := by
  by_cases h0 : o.1 = 0
  · have := (d9 h h0).2.1
    unfold aL
    rwa [if_pos h0]
  · obtain ⟨c, l, e, _⟩ := IQ h h0
    rw [e]
    simp
theorem Sf {l : List Ot} (h : ∀ o ∈ l, aW o = true) (h0 : ∀ o, l.head? = some o → o.1 ≠ 0) : Stop (bd l) := by
  cases l with
  | nil => exact .inl rfl
  | cons o l =>
    obtain ⟨c, w, e, hc⟩ := IQ (h o (by simp)) (h0 o rfl)
    rw [dv, e]
    exact ab3 hc
theorem uM : ∀ {l : List Ot}, (∀ o ∈ l, aW o = true) → NJ l → bC (bd l) = some l
  | [], _, _ => nB
  | o :: l, h, hn => by
    have ho := h o (by simp)
    have hp : dU (aL o ++ bd l) = some (o, (aL o).length) := Iq ho fun h0 => Sf (fun x hx => h x (by simp [hx])) fun x hx h1 => by
      refine hn 0 o x rfl ?_ ⟨h0, h1⟩
      rw [List.head?_eq_getElem?] at hx
      simpa using hx
    rw [dv, kM (by simp [wK ho]) hp, List.drop_left' rfl, uM (fun x hx => h x (by simp [hx])) hn.tail]
    rfl
theorem qb : ∀ (n : Nat) (s : List UInt8) (l : List Ot), s.length ≤ n → bC s = some l → (∀ o ∈ l, aW o = true) ∧ bd l = s ∧ NJ l
  | n, s, l, hn, h => by
    by_cases hs : s = []
    · subst hs
      rw [nB] at h
      cases h
      exact ⟨by simp, rfl, fun i x y hx => by simp at hx⟩
    · cases hp : dU s with
      | none => rw [qy hs hp] at h; cases h
      | some p =>
        obtain ⟨o, m⟩ := p
        obtain ⟨p1, p2, p3, p4, p5⟩ := kV hp
        rw [kM hs hp] at h
        cases hq : bC (s.drop m) with
        | none => rw [hq] at h; cases h
        | some l2 =>
          rw [hq] at h
          cases h
          match n, hn with
          | 0, hn => omega
          | n + 1, hn =>
            obtain ⟨q1, q2, q3⟩ := qb n (s.drop m) l2 (by rw [List.length_drop]; omega) hq
            refine ⟨fun x hx => ?_, ?_, fun i x y hx hy hxy => ?_⟩
            · rcases List.mem_cons.1 hx with rfl | hx
              · exact p1
              · exact q1 x hx
            · rw [dv, p2, q2, List.take_append_drop]
            · cases i with
              | zero =>
                simp only [List.getElem?_cons_zero, Option.some.injEq] at hx
                subst hx
                simp only [Nat.zero_add, List.getElem?_cons_succ] at hy
                have hst := p5 hxy.1
                cases l2 with
                | nil => simp at hy
                | cons z l2 =>
                  simp only [List.getElem?_cons_zero, Option.some.injEq] at hy
                  subst hy
                  have hz := d9 (q1 z (by simp)) hxy.2
                  rw [← q2, dv] at hst
                  have hb : aL z = z.2.2.2 := by unfold aL; rw [if_pos hxy.2]
                  rw [hb] at hst
                  rcases hst with e | e
                  · simp [hz.2.1] at e
                  · have ha := hz.2.2
                    rw [br hz.2.1, List.all_cons, Bool.and_eq_true] at ha
                    obtain ⟨r2, e2, hn2, hc⟩ := nZ hz.2.1 ha.1
                    have ho : aU (z.2.2.2 ++ bd l2) = aU z.2.2.2 := by
                      conv => lhs; rw [e2, List.append_assoc]
                      rw [jb hc.1 hc.2.1 hc.2.2, ← hn2]
                    rw [ho, ha.1] at e
                    cases e
              | succ i => exact q3 i x y (by simpa using hx) (by simpa using hy) hxy
theorem eX (o : Ot) : mM [] o = [o] := rfl
theorem bE (l : List Ot) (x o : Ot) : mM (l ++ [x]) o = if o.1 = 0 ∧ x.1 = 0 then l ++ [(x.1, x.2.1, x.2.2.1, x.2.2.2 ++ o.2.2.2)] else l ++ [x] ++ [o] := by
  unfold mM
  simp
theorem dE (l : List Ot) (o : Ot) : a7 (l ++ [o]) = mM (a7 l) o := by simp [a7]
theorem bF {α : Type} (l : List α) : l = [] ∨ ∃ m x, l = m ++ [x] := by
  rcases List.eq_nil_or_concat l with h | ⟨m, x, h⟩
  · exact .inl h
  · exact .inr ⟨m, x, by simpa using h⟩
theorem lr {α : Type} {P : List α → Prop} (h0 : P []) (h1 : ∀ l x, P l → P (l ++ [x])) (l : List α) : P l := by
  have : ∀ n (l : List α), l.length = n → P l := fun n => by
    induction n with
    | zero => intro l hl; rw [List.eq_nil_of_length_eq_zero hl]; exact h0
    | succ n ih =>
      intro l hl
      rcases bF l with rfl | ⟨m, x, rfl⟩
      · simp at hl
      · exact h1 m x (ih m (by simpa using hl))
  exact this _ l rfl
theorem NJ.snoc {l : List Ot} {o : Ot} (h : NJ l) (ho : ∀ x, l.getLast? = some x → ¬ (x.1 = 0 ∧ o.1 = 0)) : NJ (l ++ [o]) := fun i x y hx hy => by
  by_cases h1 : i + 1 < l.length
  · rw [List.getElem?_append_left (by omega)] at hx
    rw [List.getElem?_append_left h1] at hy
    exact h i x y hx hy
  · have hl := (List.getElem?_eq_some_iff.1 hy).1
    rw [List.length_append, List.length_singleton] at hl
    rw [List.getElem?_append_left (by omega)] at hx
    rw [List.getElem?_append_right (by omega), show i + 1 - l.length = 0 by omega, List.getElem?_cons_zero, Option.some.injEq] at hy
    subst hy
    exact ho x (by rw [List.getLast?_eq_getElem?, show l.length - 1 = i by omega]; exact hx)
theorem NJ.init {l : List Ot} {o : Ot} (h : NJ (l ++ [o])) : NJ l := fun i x y hx hy => by
  have h1 := (List.getElem?_eq_some_iff.1 hy).1
  exact h i x y (by rw [List.getElem?_append_left (by omega)]; exact hx) (by rw [List.getElem?_append_left h1]; exact hy)
theorem NJ.last {l : List Ot} {x o : Ot} (h : NJ (l ++ [x] ++ [o])) : ¬ (x.1 = 0 ∧ o.1 = 0) :=
  h l.length x o (by simp) (by simp)
theorem Sl {l : List Ot} {o : Ot} (h : ∀ x ∈ l, aW x = true) (ho : aW o = true) : ∀ x ∈ mM l o, aW x = true := by
  rcases bF l with rfl | ⟨m, x, rfl⟩
  · rw [eX]
    simpa using ho
  · rw [bE]
    split
    · rename_i hk
      intro y hy
      rcases List.mem_append.1 hy with hy | hy
      · exact h y (by simp [hy])
      · rw [List.mem_singleton] at hy
        subst hy
        obtain ⟨e1, n1, a1⟩ := d9 (h x (by simp)) hk.2
        obtain ⟨e2, n2, a2⟩ := d9 ho hk.1
        rw [e1]
        unfold aW
        simp only [if_true, ng _ _ a1, List.all_append, a1, a2]
        simp [n1]
    · intro y hy
      rcases List.mem_append.1 hy with hy | hy
      · exact h y hy
      · rw [List.mem_singleton] at hy
        subst hy
        exact ho
theorem Jq {l : List Ot} {o : Ot} : bd (mM l o) = bd l ++ aL o := by
  rcases bF l with rfl | ⟨m, x, rfl⟩
  · rw [eX, dv]
    simp [bd]
  · rw [bE]
    split
    · rename_i hk
      rw [fh, fh]
      unfold aL
      simp [hk.1, hk.2]
    · rw [fh]
theorem aaW {l : List Ot} {o : Ot} (h : NJ l) : NJ (mM l o) := by
  rcases bF l with rfl | ⟨m, x, rfl⟩
  · rw [eX]
    exact fun i x y hx hy => by simp at hy
  · rw [bE]
    split
    · rename_i hk
      refine h.init.snoc fun y hy hxy => ?_
      refine h (m.length - 1) y x ?_ ?_ ⟨hxy.1, hk.2⟩
      · rw [List.getLast?_eq_getElem?] at hy
        rw [List.getElem?_append_left ((List.getElem?_eq_some_iff.1 hy).1)]
        exact hy
      · have : 0 < m.length := by
          cases m with
          | nil => simp at hy
          | cons a m => simp
        rw [show m.length - 1 + 1 = m.length by omega]
        simp
    · rename_i hk
      refine h.snoc fun y hy hxy => hk ?_
      simp at hy
      subst hy
      exact ⟨hxy.2, hxy.1⟩
theorem kA (l : List Ot) : bd (a7 l) = bd l ∧ NJ (a7 l) ∧ ((∀ o ∈ l, aW o = true) → ∀ o ∈ a7 l, aW o = true) := by
  refine lr (P := fun l => bd (a7 l) = bd l ∧ NJ (a7 l) ∧ ((∀ o ∈ l, aW o = true) → ∀ o ∈ a7 l, aW o = true)) ⟨rfl, fun i x y hx => by simp [a7] at hx, fun _ => by simp [a7]⟩ (fun l x ih => ?_) l
  rw [dE, Jq, ih.1, fh]
  exact ⟨rfl, aaW ih.2.1, fun h => Sl (ih.2.2 fun o ho => h o (by simp [ho])) (h x (by simp))⟩
theorem ag7 {l : List Ot} : NJ l → a7 l = l := by
  refine lr (P := fun l => NJ l → a7 l = l) (fun _ => rfl) (fun l o ih h => ?_) l
  rw [dE, ih h.init]
  rcases bF l with rfl | ⟨m, x, rfl⟩
  · rfl
  · rw [bE, if_neg (fun hk => h.last ⟨hk.2, hk.1⟩)]
theorem uD {l : List Ot} (h : ∀ o ∈ l, aW o = true) : bC (bd l) = some (a7 l) := by
  obtain ⟨h1, h2, h3⟩ := kA l
  rw [← h1]
  exact uM (h3 h) h2
theorem nS {s : List UInt8} {l : List Ot} (h : bC s = some l) : (∀ o ∈ l, aW o = true) ∧ bd l = s ∧ a7 l = l := by
  obtain ⟨h1, h2, h3⟩ := qb _ s l (Nat.le_refl _) h
  exact ⟨h1, h2, ag7 h3⟩
end Go.Proofs.YticllcglldbffaaDoor.Ab
