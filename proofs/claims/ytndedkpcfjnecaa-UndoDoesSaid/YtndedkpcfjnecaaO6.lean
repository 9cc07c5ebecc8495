/- Trails: steps and lines that were, plainly; New; one call. -/
import Derived.Test.YtndedkpcfjnecaaO5
namespace Go.Proofs.Ytndedkpcfjnecaa.Ab
open Go.Proofs
set_option maxRecDepth 100000
set_option maxHeartbeats 4000000
set_option linter.unusedSimpArgs false
set_option linter.unusedVariables false
set_option linter.unnecessarySimpa false
set_option linter.unusedSectionVars false
/-- Steps back from signs, and the lines that were. -/
inductive PstR : List (Int × Int) → List Sp → List Ln → Prop
  | nil (S) : PstR S [] []
  | snoc (S a) (st : Sp) (W L) : StpR a S st.1 st.2.1 st.2.2.1 → a.length ≤ 60 → PstR a W L → PstR S (W ++ [st]) (L ++ [(a, st.2.2.2)])
/-- Steps again, and the lines that were taken back. -/
inductive LatR : List (Int × Int) → List Sp → List Ln → Prop
  | nil (S) : LatR S [] []
  | snoc (S a) (st : Sp) (W L) : StpR S a st.1 st.2.1 st.2.2.1 → a.length ≤ 60 → LatR a W L → LatR S (W ++ [st]) (L ++ [(a, st.2.2.2)])
theorem PstR.len {S W L} (h : PstR S W L) : W.length = L.length := by
  induction h with
  | nil S => rfl
  | snoc S a st W L h1 h2 h3 ih => simp [ih]
theorem LatR.len {S W L} (h : LatR S W L) : W.length = L.length := by
  induction h with
  | nil S => rfl
  | snoc S a st W L h1 h2 h3 ih => simp [ih]
theorem PstR.tail {S : List (Int × Int)} {W : List Sp} {L : List Ln} (h : PstR S W L) : PstR S (W.drop 1) (L.drop 1) := by
  induction h with
  | nil S => exact .nil S
  | snoc S a st W L h1 h2 h3 ih =>
    have hl := h3.len
    cases W with
    | nil =>
      cases L with
      | nil => exact .nil S
      | cons y L => simp at hl
    | cons w W =>
      cases L with
      | nil => simp at hl
      | cons y L =>
        simp only [List.cons_append, List.drop_succ_cons, List.drop_zero] at ih ⊢
        exact .snoc S a st W L h1 h2 ih
theorem app_back {a S : List (Int × Int)} {place : Int} {gone come : List (Int × Int)} (h : StpR a S place gone come) : ∃ p : Nat, place = p ∧ p + come.length ≤ S.length ∧ appS S p come.length gone = a ∧ gone.length ≤ a.length ∧ come.length ≤ S.length := by
  obtain ⟨P, Q, rfl, rfl, hp⟩ := h
  refine ⟨P.length, hp, by simp, ?_, by simp; omega, by simp; omega⟩
  unfold appS
  rw [List.append_assoc, List.append_assoc, List.append_assoc, List.take_left' rfl, List.drop_append, List.drop_eq_nil_of_le (by omega), Nat.add_sub_cancel_left, List.nil_append, List.drop_left' rfl]
theorem app_forth {a S : List (Int × Int)} {place : Int} {gone come : List (Int × Int)} (h : StpR S a place gone come) : ∃ p : Nat, place = p ∧ p + gone.length ≤ S.length ∧ appS S p gone.length come = a ∧ come.length ≤ a.length ∧ gone.length ≤ S.length := by
  obtain ⟨P, Q, h1, h2, hp⟩ := h
  exact app_back ⟨P, Q, h2, h1, hp⟩
theorem PstR.last {S : List (Int × Int)} {W : List Sp} {L : List Ln} (h : PstR S W L) : (W = [] ∧ L = []) ∨ ∃ a st W0 L0, W = W0 ++ [st] ∧ L = L0 ++ [(a, st.2.2.2)] ∧ StpR a S st.1 st.2.1 st.2.2.1 ∧ a.length ≤ 60 ∧ PstR a W0 L0 := by
  cases h with
  | nil => exact .inl ⟨rfl, rfl⟩
  | snoc _ a st W L h1 h2 h3 => exact .inr ⟨a, st, W, L, rfl, rfl, h1, h2, h3⟩
theorem LatR.last {S : List (Int × Int)} {W : List Sp} {L : List Ln} (h : LatR S W L) : (W = [] ∧ L = []) ∨ ∃ a st W0 L0, W = W0 ++ [st] ∧ L = L0 ++ [(a, st.2.2.2)] ∧ StpR S a st.1 st.2.1 st.2.2.1 ∧ a.length ≤ 60 ∧ LatR a W0 L0 := by
  cases h with
  | nil => exact .inl ⟨rfl, rfl⟩
  | snoc _ a st W L h1 h2 h3 => exact .inr ⟨a, st, W, L, rfl, rfl, h1, h2, h3⟩
theorem capW_drop (W : List Sp) (most : Int) : capW W most = if most < W.length then W.drop 1 else W := by
  unfold capW
  split
  · cases W <;> simp
  · rfl
theorem cap_pst {S : List (Int × Int)} {W : List Sp} {L : List Ln} (h : PstR S W L) (most : Int) : PstR S (capW W most) (capL L most) := by
  rw [capW_drop]
  unfold capL
  rw [h.len]
  split
  · exact h.tail
  · exact h
/-- A Set that changes signs. -/
theorem set_pst {now x : Ln} {W : List Sp} {L : List Ln} (h : PstR now.1 W L) (hn : now.1.length ≤ 60) (join : Bool) (most : Int) : ∃ old W1, JoinR now W join old W1 ∧ old.1.length ≤ 60 ∧ PstR x.1 (capW (W1 ++ [btw old x]) most) (capL (if join = true ∧ L ≠ [] then L else L ++ [now]) most) := by
  by_cases hj : join = true ∧ L ≠ []
  · rcases h.last with ⟨_, hl⟩ | ⟨a, st, W0, L0, rfl, rfl, h1, h2, h3⟩
    · exact absurd hl hj.2
    · obtain ⟨p, e1, e2, e3, e4, e5⟩ := app_back h1
      refine ⟨(a, st.2.2.2), W0, .inr ⟨hj.1, st, p, rfl, e1, e2, by omega, by rw [e3]⟩, h2, ?_⟩
      rw [if_pos hj]
      exact cap_pst (.snoc x.1 a (btw (a, st.2.2.2) x) W0 L0 (btw_stp (a, st.2.2.2) x) h2 h3) most
  · rw [if_neg hj]
    refine ⟨now, W, .inl ⟨?_, rfl, rfl⟩, hn, cap_pst (.snoc x.1 now.1 (btw now x) W L (btw_stp now x) hn h) most⟩
    cases join
    · exact .inl rfl
    · right
      have : L = [] := by
        cases L with
        | nil => rfl
        | cons y L => exact absurd ⟨rfl, by simp⟩ hj
      have hl := h.len
      rw [this] at hl
      exact List.eq_nil_of_length_eq_zero hl
end Go.Proofs.Ytndedkpcfjnecaa.Ab
