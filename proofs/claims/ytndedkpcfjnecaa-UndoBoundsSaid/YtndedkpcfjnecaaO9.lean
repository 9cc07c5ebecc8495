/- Trails: what holds between two calls. -/
import Derived.Test.YtndedkpcfjnecaaO8
namespace Go.Proofs.Ytndedkpcfjnecaa.Ab
open Go.Proofs
set_option maxRecDepth 100000
set_option maxHeartbeats 4000000
set_option linter.unusedSimpArgs false
set_option linter.unusedVariables false
set_option linter.unnecessarySimpa false
set_option linter.unusedSectionVars false
/-- The trail in the program and the lines that were agree. -/
def Inv (s0 s : VS) (b : Nat) (now : Ln) (L M : List Ln) (most : Int) (n : Nat) : Prop := ∃ W T, Trl s0 s b now W T most ∧ PstR now.1 W L ∧ LatR now.1 T M ∧ now.1.length ≤ 60 ∧ L.length + M.length ≤ n ∧ s0.size ≤ s.size ∧ ((L.length + M.length : Nat) : Int) ≤ most
theorem capL_len (p : List Ln) (most : Int) : (capL p most).length ≤ p.length := by
  unfold capL
  split
  · rw [List.length_drop]; omega
  · omega
theorem capL_most (p : List Ln) (most : Int) (h0 : 0 ≤ most) (h : (p.length : Int) ≤ most + 1) : ((capL p most).length : Int) ≤ most := by
  unfold capL
  split
  · rw [List.length_drop]; omega
  · omega
section
variable {k : Nat → List Value → Option Value} (hk : ∀ f, f ≠ 69 → Open k f)
include hk
theorem does_ok {s0 s : VS} {b : Nat} {now : Ln} {L M : List Ln} {most : Int} {n : Nat} (hi : Inv s0 s b now L M most n) (hn : n < 5000) (kd : Int) (x : Ln) (join : Bool) (hx : x.1.length ≤ 60) {K : AV → VS → Prop}
    (hK : ∀ s' now' L' M', Inv s0 s' b now' L' M' most (n + 1) → Ft s s' b → K (.tup [.agg (eTT now' L' M'), .c (.bool true)]) s') : VC (XK k) 38 [.ptr ⟨b, 0, none⟩, .agg (eTT now L M), .agg [.c (.int .i64 kd), LS x.1, .c (.int .i64 x.2), .c (.bool join)], .c (.int .i64 most)] s K := by
  obtain ⟨W, T, h1, h2, h3, h4, h5, h6, h7⟩ := hi
  have l2 := h2.len
  have l3 := h3.len
  by_cases k0 : kd = 0
  · subst k0
    obtain ⟨old, W1, j1, j2, j3⟩ := set_pst (x := x) h2 h4 join most
    cases hm : mayL x
    · exact does_bad hk h1 j1 (by omega) (by omega) (by omega) h6 hm fun s' q f => hK s' _ _ _ ⟨W, T, q, h2, h3, h4, by omega, by have := f.1; omega, by first | exact h7 | (simp only [List.length_append, List.length_singleton] at h7 ⊢; omega)⟩ f
    · by_cases he : x.1 = now.1
      · exact does_same hk h1 j1 (by omega) (by omega) (by omega) (by omega) h6 hm he fun s' q f => hK s' _ _ _ ⟨W, T, by rw [← he] at q; exact q, by rw [he]; exact h2, by rw [he]; exact h3, hx, by omega, by have := f.1; omega, by first | exact h7 | (simp only [List.length_append, List.length_singleton] at h7 ⊢; omega)⟩ f
      · have hcm : ((capL (if join = true ∧ L ≠ [] then L else L ++ [now]) most).length : Int) ≤ most := by
          refine capL_most _ _ (by omega) ?_
          split
          · omega
          · simp only [List.length_append, List.length_singleton]; omega
        refine does_set hk h1 j1 (by omega) (by omega) (by omega) (by omega) h6 hm he fun s' q f => hK s' _ _ _ ⟨_, [], q, j3, .nil _, hx, ?_, by have := f.1; omega, by simpa using hcm⟩ f
        have := capL_len (if join = true ∧ L ≠ [] then L else L ++ [now]) most
        have e : (if join = true ∧ L ≠ [] then L else L ++ [now]).length ≤ L.length + 1 := by
          split
          · omega
          · simp
        simp only [List.length_nil]
        omega
  · by_cases k1 : kd = 1
    · subst k1
      rcases h2.last with ⟨rfl, rfl⟩ | ⟨a, st, W0, L0, rfl, rfl, q1, q2, q3⟩
      · exact does_back0 hk (L := []) (W := []) h1 h6 fun s' q f => hK s' _ _ _ ⟨[], T, q, .nil _, h3, h4, by omega, by have := f.1; omega, by first | exact h7 | (simp only [List.length_append, List.length_singleton] at h7 ⊢; omega)⟩ f
      · obtain ⟨p, e1, e2, e3, e4, e5⟩ := app_back q1
        simp only [List.length_append, List.length_singleton] at l2 h5
        refine does_back hk h1 h6 p e1 e2 (by omega) (by omega) (by omega) (by omega) (by omega) (by omega) fun s' q f => hK s' _ _ _ ⟨W0, _, by rw [e3] at q; exact q, q3, .snoc a now.1 (st.1, st.2.1, st.2.2.1, now.2) T M q1 h4 h3, q2, ?_, by have := f.1; omega, by first | exact h7 | (simp only [List.length_append, List.length_singleton] at h7 ⊢; omega)⟩ f
        simp only [List.length_append, List.length_singleton]
        omega
    · rcases h3.last with ⟨rfl, rfl⟩ | ⟨a, st, T0, M0, rfl, rfl, q1, q2, q3⟩
      · exact does_forth0 hk (M := []) (T := []) k0 k1 h1 h6 fun s' q f => hK s' _ _ _ ⟨W, [], q, h2, .nil _, h4, by omega, by have := f.1; omega, by first | exact h7 | (simp only [List.length_append, List.length_singleton] at h7 ⊢; omega)⟩ f
      · obtain ⟨p, e1, e2, e3, e4, e5⟩ := app_forth q1
        simp only [List.length_append, List.length_singleton] at l3 h5
        refine does_forth hk k0 k1 h1 h6 p e1 e2 (by omega) (by omega) (by omega) (by omega) (by omega) (by omega) fun s' q f => hK s' _ _ _ ⟨_, T0, by rw [e3] at q; exact q, .snoc a now.1 (st.1, st.2.1, st.2.2.1, now.2) W L ?_ h4 h2, q3, q2, ?_, by have := f.1; omega, by first | exact h7 | (simp only [List.length_append, List.length_singleton] at h7 ⊢; omega)⟩ f
        · exact q1
        · simp only [List.length_append, List.length_singleton]
          omega
theorem back_inv {s0 s : VS} {b : Nat} {now y : Ln} {L M : List Ln} {most : Int} {n : Nat} (hi : Inv s0 s b now (L ++ [y]) M most n) (hn : n < 5000) {K : AV → VS → Prop}
    (hK : ∀ s', Inv s0 s' b y L (M ++ [now]) most n → Ft s s' b → K (.c (.bool true)) s') : VC (XK k) 42 [.ptr ⟨b, 0, none⟩] s K := by
  obtain ⟨W, T, h1, h2, h3, h4, h5, h6, h7⟩ := hi
  have l2 := h2.len
  have l3 := h3.len
  rcases h2.last with ⟨_, e⟩ | ⟨a, st, W0, L0, rfl, e, q1, q2, q3⟩
  · exact absurd e (by simp)
  · obtain ⟨rfl, e2⟩ := List.append_inj' e rfl
    have e3 : y = (a, st.2.2.2) := by simpa using e2
    subst e3
    obtain ⟨p, e1, e2, e3, e4, e5⟩ := app_back q1
    simp only [List.length_append, List.length_singleton] at l2 h5 h7
    refine back_ok hk h1 p e1 e2 (by omega) (by omega) (by omega) (by omega) fun s' q f => hK s' ⟨W0, _, by rw [e3] at q; exact q, q3, .snoc a now.1 (st.1, st.2.1, st.2.2.1, now.2) T M q1 h4 h3, q2, ?_, by have := f.1; omega, ?_⟩ f
    · simp only [List.length_append, List.length_singleton]
      omega
    · simp only [List.length_append, List.length_singleton]
      omega
theorem forth_inv {s0 s : VS} {b : Nat} {now y : Ln} {L M : List Ln} {most : Int} {n : Nat} (hi : Inv s0 s b now L (M ++ [y]) most n) (hn : n < 5000) {K : AV → VS → Prop}
    (hK : ∀ s', Inv s0 s' b y (L ++ [now]) M most n → Ft s s' b → K (.c (.bool true)) s') : VC (XK k) 43 [.ptr ⟨b, 0, none⟩] s K := by
  obtain ⟨W, T, h1, h2, h3, h4, h5, h6, h7⟩ := hi
  have l2 := h2.len
  have l3 := h3.len
  rcases h3.last with ⟨_, e⟩ | ⟨a, st, T0, M0, rfl, e, q1, q2, q3⟩
  · exact absurd e (by simp)
  · obtain ⟨rfl, e2⟩ := List.append_inj' e rfl
    have e3 : y = (a, st.2.2.2) := by simpa using e2
    subst e3
    obtain ⟨p, e1, e2, e3, e4, e5⟩ := app_forth q1
    simp only [List.length_append, List.length_singleton] at l3 h5 h7
    refine forth_ok hk h1 p e1 e2 (by omega) (by omega) (by omega) (by omega) fun s' q f => hK s' ⟨_, T0, by rw [e3] at q; exact q, .snoc a now.1 (st.1, st.2.1, st.2.2.1, now.2) W L q1 h4 h2, q3, q2, ?_, by have := f.1; omega, ?_⟩ f
    · simp only [List.length_append, List.length_singleton]
      omega
    · simp only [List.length_append, List.length_singleton]
      omega
theorem back_none {s0 s : VS} {b : Nat} {now : Ln} {M : List Ln} {most : Int} {n : Nat} (hi : Inv s0 s b now [] M most n) {K : AV → VS → Prop} (hK : K (.c (.bool false)) s) : VC (XK k) 42 [.ptr ⟨b, 0, none⟩] s K := by
  obtain ⟨W, T, h1, h2, h3, h4, h5, h6, h7⟩ := hi
  have l2 := h2.len
  have : W = [] := List.eq_nil_of_length_eq_zero l2
  subst this
  exact back0_ok hk h1 hK
theorem inv_steps {s0 s : VS} {b : Nat} {now : Ln} {L M : List Ln} {most : Int} {n : Nat} (hi : Inv s0 s b now L M most n) {K : AV → VS → Prop} (hK : K (.tup [.c (.int .i64 L.length), .c (.int .i64 M.length)]) s) : VC (XK k) 39 [.ptr ⟨b, 0, none⟩] s K := by
  obtain ⟨W, T, h1, h2, h3, h4, h5, h6, h7⟩ := hi
  refine steps_ok hk h1 ?_
  rw [h2.len, h3.len]
  exact hK
theorem inv_now {s0 s : VS} {b : Nat} {now : Ln} {L M : List Ln} {most : Int} {n : Nat} (hi : Inv s0 s b now L M most n) {K : AV → VS → Prop} (hK : ∀ s', Inv s0 s' b now L M most n → KeepA s s' → K (.agg (eL now)) s') : VC (XK k) 41 [.ptr ⟨b, 0, none⟩] s K := by
  obtain ⟨W, T, h1, h2, h3, h4, h5, h6, h7⟩ := hi
  exact now_ok hk h1 (by omega) fun s' q f => hK s' ⟨W, T, q, h2, h3, h4, h5, by have := f.1; omega, h7⟩ f
end
end Go.Proofs.Ytndedkpcfjnecaa.Ab
