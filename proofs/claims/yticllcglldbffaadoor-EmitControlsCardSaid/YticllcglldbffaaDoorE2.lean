import Derived.Test.YticllcglldbffaaDoorE1
namespace Go.Proofs.YticllcglldbffaaDoor.Ab
open Go.Proofs
set_option maxRecDepth 100000
set_option maxHeartbeats 4000000
set_option linter.unusedSimpArgs false
set_option linter.unusedVariables false
set_option linter.unnecessarySimpa false
set_option linter.unusedSectionVars false
def CK (c : UInt8) : Bool := decide (48 ≤ c.toNat) && decide (c.toNat ≤ 57)
theorem un : ∀ (m n : Nat), n ≤ m → (dT 10 n).all CK = true
  | m, n, hm => by
    have hd : ∀ a, a < 10 → CK (dig a) = true := fun a ha => by
      unfold CK
      rw [Hv (by omega), if_pos ha]
      simp
      omega
    by_cases h : n < 10
    · rw [dY h]; simp [hd n h]
    · match m, hm with
      | 0, hm => omega
      | m + 1, hm =>
        rw [fk (by omega) (by omega), List.all_append, un m (n / 10) (by omega)]
        simp [hd (n % 10) (Nat.mod_lt n (by omega : 10 > 0))]
theorem ID {n : Nat} (h : n ≤ 1000) : (dT 10 n).length ≤ 4 := by
  by_cases h1 : n < 10
  · rw [dY h1]; simp
  · rw [fk (by omega) (by omega), List.length_append]
    by_cases h2 : n / 10 < 10
    · rw [dY h2]; simp
    · rw [fk (by omega) (by omega), List.length_append]
      by_cases h3 : n / 10 / 10 < 10
      · rw [dY h3]; simp
      · rw [fk (by omega) (by omega), List.length_append, dY (by omega)]; simp
theorem dy {n : Int} (h0 : 0 ≤ n) (h : n ≤ 1000) : (aX n).all CK = true ∧ (aX n).length ≤ 4 ∧ 0 < (aX n).length := by
  unfold aX
  rw [if_neg (by omega)]
  exact ⟨un _ _ (Nat.le_refl _), ID (by omega), uV _ _⟩
theorem uI {c : UInt8} (h : CK c = true) : fc c = true ∧ c ≠ 59 := by
  simp only [CK, Bool.and_eq_true, decide_eq_true_eq] at h
  refine ⟨by simp [fc, h], ?_⟩
  rintro rfl
  simp at h
theorem mP {α : Type} {p : α → Bool} {l r : List α} {x : α} (h : l.all p = true) (hx : p x = false) : (l ++ x :: r).takeWhile p = l ∧ (l ++ x :: r).dropWhile p = x :: r := by
  induction l with
  | nil => simp [List.takeWhile, List.dropWhile, hx]
  | cons a l ih =>
    rw [List.all_cons, Bool.and_eq_true] at h
    have := ih h.2
    simp [List.takeWhile, List.dropWhile, h.1, this]
theorem lP {P r : List UInt8} {c : UInt8} (h : P.all fc = true) (hl : P.length < 10) (hc : fc c = false) : lK (P ++ c :: r) = (eW (P ++ [c])).map fun o => (o, P.length + 1) := by
  have h1 := (mP (r := r) h hc).1
  have hs : b6 (P ++ c :: r) = P.length := by
    unfold b6
    rw [h1]
    omega
  unfold lK
  rw [hs, if_neg (by simp; omega)]
  have : (P ++ c :: r).take (P.length + 1) = P ++ [c] := by
    rw [show P ++ c :: r = (P ++ [c]) ++ r by simp, List.take_left' (by simp)]
  rw [this]
theorem qC : ((List.range 8).all fun (a : Nat) => decide (eW (aZ (a : Int)) = some (4, (a : Int), 0, [])) && (decide ((aZ (a : Int)).getLast? = some 109) && ((aZ (a : Int)).dropLast.all fc && decide ((aZ (a : Int)).dropLast.length < 10)))) = true := by decide
theorem qV {p : List UInt8} (h : p.getLast? ≠ some 109) : (List.range 8).find? (fun (a : Nat) => decide (p = aZ (a : Int))) = none := by
  rw [List.find?_eq_none]
  intro a ha hp
  rw [decide_eq_true_eq] at hp
  have := List.all_eq_true.1 qC a ha
  simp only [Bool.and_eq_true, decide_eq_true_eq] at this
  rw [hp] at h
  exact h this.2.1
theorem uz {α : Type} {l : List α} {a : α} (h : l.getLast? = some a) : l = l.dropLast ++ [a] := by
  obtain ⟨ys, rfl⟩ := List.getLast?_eq_some_iff.1 h
  simp
theorem gN {α : Type} (l : List α) (x : α) : (l ++ [x]).getLast? = some x ∧ (l ++ [x]).dropLast = l := by simp
theorem JW {n m : Int} (h1 : 1 ≤ n) (h2 : n ≤ 1000) (h3 : 1 ≤ m) (h4 : m ≤ 1000) : eW (aX n ++ [59] ++ aX m ++ [72]) = some (1, n, m, []) := by
  obtain ⟨a1, a2, a3⟩ := dy (by omega : 0 ≤ n) h2
  obtain ⟨b1, b2, b3⟩ := dy (by omega : 0 ≤ m) h4
  have hl := gN (aX n ++ [59] ++ aX m) 72
  obtain ⟨p, hp⟩ : ∃ p, p = aX n ++ [59] ++ aX m ++ [72] := ⟨_, rfl⟩
  rw [← hp] at hl ⊢
  have ne : ∀ q : List UInt8, q.getLast? ≠ some 72 → p ≠ q := fun q hq e => hq (by rw [← e]; exact hl.1)
  unfold eW
  rw [if_neg (ne _ (by decide)), if_neg (ne _ (by decide)), if_neg (ne _ (by decide)), if_neg (ne _ (by decide)), qV (by rw [hl.1]; decide)]
  show jL p = _
  unfold jL
  rw [if_neg (by rw [hl.1]; simp), hl.2]
  have e : aX n ++ [59] ++ aX m = aX n ++ 59 :: aX m := by simp
  rw [e, if_neg (by simp)]
  have hall : (aX n).all (fun c => decide (c ≠ 59)) = true := by
    rw [List.all_eq_true] at a1 ⊢
    intro c hc
    simpa using (uI (a1 c hc)).2
  have ht := mP (r := aX m) (x := (59 : UInt8)) hall (by decide)
  have ht1 : (aX n ++ 59 :: aX m).takeWhile (· ≠ 59) = aX n := ht.1
  have ht2 : (aX n ++ 59 :: aX m).dropWhile (· ≠ 59) = 59 :: aX m := ht.2
  rw [ht1, ht2, List.drop_succ_cons, List.drop_zero, xA (by omega) (by omega), xA (by omega) (by omega)]
  have hm : aW (1, n, m, []) = true := by
    unfold aW
    simp [h1, h2, h3, h4]
  simp only [hm, if_true]
theorem Tb {o : Ot} (h : aW o = true) (hk : o.1 ≠ 0 ∧ o.1 ≠ 6 ∧ o.1 ≠ 7 ∧ o.1 ≠ 8) (r : List UInt8) : lK (kJ o ++ r) = some (o, (kJ o).length) := by
  obtain ⟨kd, n, m, t⟩ := o
  have hk : kd ≠ 0 ∧ kd ≠ 6 ∧ kd ≠ 7 ∧ kd ≠ 8 := hk
  unfold aW at h
  dsimp only at h
  rw [if_neg hk.1] at h
  simp only [Bool.and_eq_true, decide_eq_true_eq] at h
  obtain ⟨ht, h⟩ := h
  subst ht
  unfold kJ
  simp only
  by_cases k1 : kd = 1
  · subst k1
    simp only [if_pos, Bool.and_eq_true, decide_eq_true_eq] at h ⊢
    obtain ⟨⟨h1, h2⟩, h3, h4⟩ := h
    obtain ⟨a1, a2, a3⟩ := dy (by omega : 0 ≤ n) h2
    obtain ⟨b1, b2, b3⟩ := dy (by omega : 0 ≤ m) h4
    have e : aX n ++ [59] ++ aX m ++ [72] ++ r = (aX n ++ [59] ++ aX m) ++ 72 :: r := by simp
    rw [e, lP ?_ (by simp; omega) (by decide), JW h1 h2 h3 h4]
    · simp
      omega
    · rw [List.all_append, List.all_append]
      have pa : ∀ l : List UInt8, l.all CK = true → l.all fc = true := fun l hl => by
        rw [List.all_eq_true] at hl ⊢
        exact fun c hc => (uI (hl c hc)).1
      rw [pa _ a1, pa _ b1]
      decide
  · rw [if_neg k1] at h ⊢
    simp only [Bool.and_eq_true, decide_eq_true_eq] at h
    obtain ⟨hm, h⟩ := h
    subst hm
    by_cases k4 : kd = 4
    · subst k4
      simp only [if_pos, Bool.and_eq_true, decide_eq_true_eq] at h
      obtain ⟨a, rfl⟩ := Int.eq_ofNat_of_zero_le h.1
      have ha : a ∈ List.range 8 := by rw [List.mem_range]; omega
      have q := List.all_eq_true.1 qC a ha
      simp only [Bool.and_eq_true, decide_eq_true_eq] at q
      obtain ⟨q1, q2, q3, q4⟩ := q
      have es : aZ (a : Int) = (aZ (a : Int)).dropLast ++ [109] := by
        exact uz q2
      have e2 : (aZ (a : Int)).length = (aZ (a : Int)).dropLast.length + 1 := by
        conv => lhs; rw [es]
        simp
      have : (if (4 : Int) = 2 then ([50, 74] : List UInt8) else if (4 : Int) = 3 then [75] else if (4 : Int) = 4 then aZ (a : Int) else if (a : Int) = 1 then [63, 50, 48, 48, 52, 104] else [63, 50, 48, 48, 52, 108]) = aZ (a : Int) := rfl
      rw [this]
      have e3 : aZ (a : Int) ++ r = (aZ (a : Int)).dropLast ++ 109 :: r := by
        conv => lhs; rw [es]
        simp
      rw [e3, lP q3 q4 (by decide), ← es, q1, e2]
      rfl
    · rw [if_neg k4] at h ⊢
      by_cases k5 : kd = 5
      · subst k5
        simp only [if_pos, Bool.or_eq_true, decide_eq_true_eq] at h
        rcases h with rfl | rfl
        · exact lP (P := [63, 50, 48, 48, 52]) (c := 108) (r := r) (by decide) (by decide) (by decide)
        · exact lP (P := [63, 50, 48, 48, 52]) (c := 104) (r := r) (by decide) (by decide) (by decide)
      · rw [if_neg k5] at h
        simp only [Bool.and_eq_true, decide_eq_true_eq] at h
        obtain ⟨rfl, h2, h8⟩ := h
        have : kd = 2 ∨ kd = 3 := by omega
        rcases this with rfl | rfl
        · exact lP (P := [50]) (c := 74) (r := r) (by decide) (by decide) (by decide)
        · exact lP (P := []) (c := 75) (r := r) (by decide) (by decide) (by decide)
theorem J5 {p : List UInt8} {o : Ot} (h : jL p = some o) : aW o = true ∧ o.1 = 1 ∧ kJ o = p := by
  unfold jL at h
  split at h
  · cases h
  · rename_i hl
    split at h
    · cases h
    · rename_i hm0
      have hl : p.getLast? = some 72 := Classical.not_not.1 hl
      have hm : 59 ∈ p.dropLast := Classical.not_not.1 hm0
      clear hm0
      have es : p = p.dropLast ++ [72] := uz hl
      generalize p.dropLast = q at *
      split at h
      · rename_i n m hn hm2
        split at h
        · rename_i hmay
          cases h
          refine ⟨hmay, rfl, ?_⟩
          have h1 := (wH hn).2.2
          have h2 := (wH hm2).2.2
          unfold kJ
          simp only [if_true]
          rw [h1, h2, es]
          have hd : ∃ z, q.dropWhile (· ≠ 59) = 59 :: z := by
            clear hn hm2 h1 h2 es hl hmay
            induction q with
            | nil => simp at hm
            | cons a q ih =>
              by_cases ha : a = 59
              · subst ha
                exact ⟨q, by simp [List.dropWhile]⟩
              · have : 59 ∈ q := by
                  rcases List.mem_cons.1 hm with e | e
                  · exact absurd e.symm ha
                  · exact e
                obtain ⟨z, hz⟩ := ih this
                exact ⟨z, by simp [List.dropWhile, ha]; simpa using hz⟩
          obtain ⟨z, hz⟩ := hd
          rw [hz, List.drop_succ_cons, List.drop_zero]
          have := List.takeWhile_append_dropWhile (p := fun c : UInt8 => decide (c ≠ 59)) (l := q)
          have h3 : q.takeWhile (· ≠ 59) ++ (59 :: z) = q := by rw [← hz]; exact this
          conv => rhs; rw [← h3]
          simp
        · cases h
      · cases h
theorem HN {p : List UInt8} {o : Ot} (h : eW p = some o) : aW o = true ∧ (o.1 ≠ 0 ∧ o.1 ≠ 6 ∧ o.1 ≠ 7 ∧ o.1 ≠ 8) ∧ kJ o = p := by
  unfold eW at h
  split at h
  · rename_i e; cases h; subst e; exact ⟨by decide, by decide, by decide⟩
  · split at h
    · rename_i e; cases h; subst e; exact ⟨by decide, by decide, by decide⟩
    · split at h
      · rename_i e; cases h; subst e; exact ⟨by decide, by decide, by decide⟩
      · split at h
        · rename_i e; cases h; subst e; exact ⟨by decide, by decide, by decide⟩
        · split at h
          · rename_i a ha
            cases h
            have h1 := List.find?_some ha
            have h2 := List.mem_of_find?_eq_some ha
            rw [decide_eq_true_eq] at h1
            rw [List.mem_range] at h2
            refine ⟨?_, by simp, ?_⟩
            · unfold aW
              simp
              omega
            · rw [h1]; rfl
          · obtain ⟨h1, h2, h3⟩ := J5 h
            exact ⟨h1, by rw [h2]; decide, h3⟩
theorem wR {s : List UInt8} {o : Ot} {n : Nat} (h : lK s = some (o, n)) : aW o = true ∧ (o.1 ≠ 0 ∧ o.1 ≠ 6 ∧ o.1 ≠ 7 ∧ o.1 ≠ 8) ∧ kJ o = s.take n ∧ 0 < n ∧ n ≤ s.length := by
  unfold lK at h
  split at h
  · cases h
  · rename_i hn
    cases he : eW (s.take (b6 s + 1)) with
    | none => rw [he] at h; cases h
    | some o1 =>
      rw [he] at h
      cases h
      obtain ⟨h1, h2, h3⟩ := HN he
      exact ⟨h1, h2, h3, by omega, by omega⟩
theorem vk {c : UInt8} {r : List UInt8} (h : c.toNat < 128) : aU (c :: r) = ((c.toNat : Int), 1) := by
  have := jb (v := (c.toNat : Int)) (by omega) (by omega) (by omega) r
  rw [Ss h] at this
  exact this
theorem ajV {c : UInt8} (h : c.toNat < 32) : okV (c.toNat : Int) = false := by
  cases hq : okV (c.toNat : Int) with
  | false => rfl
  | true => have := (oa hq).2.1; omega
theorem ab3 {c : UInt8} {r : List UInt8} (h : c.toNat < 32) : Stop (c :: r) := by
  right
  rw [vk (by omega)]
  exact ajV h
theorem d9 {o : Ot} (h : aW o = true) (h0 : o.1 = 0) : o = (0, 0, 0, o.2.2.2) ∧ o.2.2.2 ≠ [] ∧ (a8 o.2.2.2).all okV = true := by
  obtain ⟨kd, n, m, t⟩ := o
  simp only at h0
  subst h0
  unfold aW at h
  simp only [if_true, Bool.and_eq_true, decide_eq_true_eq] at h
  obtain ⟨⟨rfl, rfl⟩, h1, h2⟩ := h
  exact ⟨rfl, h1, h2⟩
theorem u3 {o : Ot} (h : aW o = true) (h0 : o.1 ≠ 0) : 1 ≤ o.1 ∧ o.1 ≤ 8 ∧ o.2.2.2 = [] ∧ (5 < o.1 → o.2.1 = 0 ∧ o.2.2.1 = 0) := by
  obtain ⟨kd, n, m, t⟩ := o
  simp only at h0 ⊢
  unfold aW at h
  simp only [if_neg h0, Bool.and_eq_true, decide_eq_true_eq] at h
  obtain ⟨ht, h⟩ := h
  by_cases k1 : kd = 1
  · subst k1; exact ⟨by omega, by omega, ht, fun h => by omega⟩
  · rw [if_neg k1] at h
    simp only [Bool.and_eq_true, decide_eq_true_eq] at h
    obtain ⟨hm, h⟩ := h
    by_cases k4 : kd = 4
    · subst k4; exact ⟨by omega, by omega, ht, fun h => by omega⟩
    · rw [if_neg k4] at h
      by_cases k5 : kd = 5
      · subst k5; exact ⟨by omega, by omega, ht, fun h => by omega⟩
      · rw [if_neg k5] at h
        simp only [Bool.and_eq_true, decide_eq_true_eq] at h
        exact ⟨by omega, by omega, ht, fun _ => ⟨h.1, hm⟩⟩
theorem IQ {o : Ot} (h : aW o = true) (h0 : o.1 ≠ 0) : ∃ c l, aL o = c :: l ∧ c.toNat < 32 := by
  unfold aL
  rw [if_neg h0]
  (repeat' split)
  · exact ⟨_, _, rfl, by decide⟩
  · exact ⟨_, _, rfl, by decide⟩
  · exact ⟨_, _, rfl, by decide⟩
  · exact ⟨27, 91 :: kJ o, rfl, by decide⟩
theorem Iq {o : Ot} {r : List UInt8} (h : aW o = true) (hs : o.1 = 0 → Stop r) : dU (aL o ++ r) = some (o, (aL o).length) := by
  by_cases h0 : o.1 = 0
  · obtain ⟨e, ht, ha⟩ := d9 h h0
    obtain ⟨t, hte⟩ : ∃ t, t = o.2.2.2 := ⟨_, rfl⟩
    rw [← hte] at e ht ha
    subst e
    have hb : aL (0, 0, 0, t) = t := rfl
    rw [hb]
    have hp := Kq t r ha (hs rfl)
    obtain ⟨c, l, rfl⟩ : ∃ c l, t = c :: l := by cases t with | nil => exact absurd rfl ht | cons c l => exact ⟨c, l, rfl⟩
    have hc : 32 ≤ c.toNat := by
      rw [br ht, List.all_cons, Bool.and_eq_true] at ha
      by_cases hc : c.toNat < 128
      · rw [vk hc] at ha
        have := (oa ha.1).2.1
        omega
      · omega
    have n1 : ∀ d : UInt8, d.toNat < 32 → c ≠ d := fun d hd e => by subst e; omega
    show dU (c :: (l ++ r)) = _
    unfold dU
    simp only
    rw [if_neg (n1 7 (by decide)), if_neg (n1 13 (by decide)), if_neg (n1 10 (by decide)), if_neg (by
      intro e
      have : (c :: (l ++ r)).take 2 = c :: (l ++ r).take 1 := rfl
      rw [this] at e
      exact n1 27 (by decide) (List.cons.inj e).1)]
    have hp2 : bi (c :: (l ++ r)) = (c :: l).length := hp
    rw [hp2, if_neg (by simp)]
    have : (c :: (l ++ r)).take (c :: l).length = c :: l := by
      show ((c :: l) ++ r).take (c :: l).length = c :: l
      exact List.take_left' rfl
    rw [this]
  · obtain ⟨k1, k2, k3, k4⟩ := u3 h h0
    obtain ⟨kd, n, m, t⟩ := o
    simp only at h0 k1 k2 k3 k4
    subst k3
    by_cases h6 : 5 < kd
    · obtain ⟨rfl, rfl⟩ := k4 h6
      have : kd = 6 ∨ kd = 7 ∨ kd = 8 := by omega
      rcases this with rfl | rfl | rfl <;> rfl
    · have hb : aL (kd, n, m, []) = [27, 91] ++ kJ (kd, n, m, []) := by
        unfold aL
        rw [if_neg h0, if_neg (by simp only; omega), if_neg (by simp only; omega), if_neg (by simp only; omega)]
      rw [hb]
      have hq := Tb h (by simp only; omega) r
      show dU (27 :: 91 :: (kJ (kd, n, m, []) ++ r)) = _
      unfold dU
      simp only
      rw [if_neg (by decide), if_neg (by decide), if_neg (by decide), if_pos (by simp)]
      show Option.map _ (lK (kJ (kd, n, m, []) ++ r)) = _
      rw [hq]
      simp
theorem kV {s : List UInt8} {o : Ot} {n : Nat} (h : dU s = some (o, n)) : aW o = true ∧ aL o = s.take n ∧ 0 < n ∧ n ≤ s.length ∧ (o.1 = 0 → Stop (s.drop n)) := by
  unfold dU at h
  split at h
  · cases h
  · rename_i c r
    split at h
    · rename_i e; cases h; subst e; exact ⟨by decide, rfl, by omega, by simp, fun h => by cases h⟩
    · split at h
      · rename_i e; cases h; subst e; exact ⟨by decide, rfl, by omega, by simp, fun h => by cases h⟩
      · split at h
        · rename_i e; cases h; subst e; exact ⟨by decide, rfl, by omega, by simp, fun h => by cases h⟩
        · split at h
          · rename_i e2
            cases hq : lK (List.drop 2 (c :: r)) with
            | none => rw [hq] at h; cases h
            | some p =>
              rw [hq] at h
              obtain ⟨o1, n1⟩ := p
              cases h
              obtain ⟨h1, h2, h3, h4, h5⟩ := wR hq
              refine ⟨h1, ?_, by omega, ?_, fun h => absurd h h2.1⟩
              · unfold aL
                rw [if_neg h2.1, if_neg h2.2.1, if_neg h2.2.2.1, if_neg h2.2.2.2, h3, Nat.add_comm, ← e2]
                rw [List.take_add]
              · rw [List.length_drop] at h5
                have : 2 ≤ (c :: r).length := by
                  have := congrArg List.length e2
                  rw [List.length_take] at this
                  simp only [List.length_cons, List.length_nil] at this ⊢
                  omega
                omega
          · split at h
            · cases h
            · rename_i hp
              cases h
              have hle := lQ (c :: r)
              have ht := HK (c :: r)
              refine ⟨?_, rfl, by omega, hle, fun _ => I2 _⟩
              unfold aW
              simp only [if_true, ht, Bool.and_true, Bool.true_and, decide_true, decide_eq_true_eq]
              intro e
              have := congrArg List.length e
              rw [List.length_take] at this
              simp only [List.length_nil] at this
              omega
end Go.Proofs.YticllcglldbffaaDoor.Ab
