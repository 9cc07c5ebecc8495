import Derived.Test.YticllcglldbffaaDoorG4
import Derived.Test.YticllcglldbffaaDoorM2
namespace Go.Proofs.YticllcglldbffaaDoor.Ab
open Go.Proofs
set_option maxRecDepth 100000
set_option maxHeartbeats 4000000
set_option linter.unusedSimpArgs false
set_option linter.unusedVariables false
set_option linter.unnecessarySimpa false
set_option linter.unusedSectionVars false
abbrev Ot := Int × Int × Int × List UInt8
def okV (v : Int) : Bool := decide (1 ≤ aB v) && decide (aB v ≤ 3)
theorem oa {v : Int} (h : okV v = true) : HM v ∧ 32 ≤ v ∧ v ≠ 127 := by
  simp only [okV, Bool.and_eq_true, decide_eq_true_eq] at h
  have c := (cls v).2.2.2.1 h.1 h.2
  have r := SM ((cls v).2.2.2.2.2.2.2.1 h.1)
  exact ⟨⟨by omega, by omega, r.2.2.1 (by omega)⟩, by omega, by omega⟩
def bi (s : List UInt8) : Nat := if h : s = [] then 0 else if okV (aU s).1 then (aU s).2 + bi (s.drop (aU s).2) else 0
termination_by s.length
decreasing_by
  have := bI h
  rw [List.length_drop]
  omega
theorem d3 : bi [] = 0 := by rw [bi, dif_pos rfl]
theorem dH {s : List UInt8} (h : s ≠ []) : bi s = if okV (aU s).1 then (aU s).2 + bi (s.drop (aU s).2) else 0 := by rw [bi, dif_neg h]
theorem lQ : ∀ s, bi s ≤ s.length := by
  refine fo ?_ ?_
  · rw [d3]; exact Nat.zero_le _
  · intro s hs ih
    have := bI hs
    rw [dH hs]
    rw [List.length_drop] at ih
    split <;> omega
theorem HF : ∀ s, bi s = s.length ↔ (a8 s).all okV = true := by
  refine fo ?_ ?_
  · rw [d3, dD]; simp
  · intro s hs ih
    have := bI hs
    have hle := lQ (s.drop (aU s).2)
    rw [List.length_drop] at ih hle
    rw [dH hs, br hs, List.all_cons, Bool.and_eq_true, ← ih]
    split
    · rename_i h
      rw [h]
      constructor
      · intro e; exact ⟨rfl, by omega⟩
      · rintro ⟨_, e⟩; omega
    · rename_i h
      constructor
      · intro e
        exact absurd (List.length_eq_zero_iff.1 e.symm) hs
      · rintro ⟨e, _⟩
        exact absurd e h
theorem nZ {s : List UInt8} (h : s ≠ []) (hv : okV (aU s).1 = true) : ∃ r, s = bv (aU s).1 ++ r ∧ (aU s).2 = (bv (aU s).1).length ∧ HM (aU s).1 := by
  rcases d7 s h with ⟨v, r, h0, h1, h2, e, ho⟩ | ⟨a, l, e, ha, hc, ho⟩
  · rw [ho]
    exact ⟨r, e, rfl, h0, h1, h2⟩
  · rw [ho] at hv
    have := (oa hv).1
    obtain ⟨_, h1, _⟩ := this
    exfalso
    simp only at h1
    omega
def Stop (r : List UInt8) : Prop := r = [] ∨ okV (aU r).1 = false
theorem Ip {r : List UInt8} (h : Stop r) : bi r = 0 := by
  rcases h with rfl | h
  · exact d3
  · by_cases hr : r = []
    · rw [hr]; exact d3
    · rw [dH hr, h]; rfl
theorem Kq : ∀ (t r : List UInt8), (a8 t).all okV = true → Stop r → bi (t ++ r) = t.length := by
  intro t r
  revert t
  refine fo ?_ ?_
  · intro _ hr
    rw [List.nil_append]; exact Ip hr
  · intro t ht ih ha hr
    rw [br ht, List.all_cons, Bool.and_eq_true] at ha
    obtain ⟨r2, e, hn, hc⟩ := nZ ht ha.1
    have ho : aU (t ++ r) = aU t := by
      conv => lhs; rw [e, List.append_assoc]
      rw [jb hc.1 hc.2.1 hc.2.2, ← hn]
    have hsz := bI ht
    rw [dH (by simp [ht]), ho, if_pos ha.1, List.drop_append_of_le_length hsz.2, ih ha.2 hr, List.length_drop]
    omega
theorem I2 : ∀ s : List UInt8, Stop (s.drop (bi s)) := by
  refine fo ?_ ?_
  · left; rw [d3]; rfl
  · intro s hs ih
    rw [dH hs]
    split
    · rw [Nat.add_comm, ← List.drop_drop, List.drop_drop, Nat.add_comm, ← List.drop_drop]; exact ih
    · rename_i h
      right
      rw [List.drop_zero]
      simpa using h
theorem HK : ∀ s : List UInt8, (a8 (s.take (bi s))).all okV = true := by
  refine fo ?_ ?_
  · rw [d3]; simp [dD]
  · intro s hs ih
    rw [dH hs]
    split
    · rename_i h
      obtain ⟨r, e, hn, hc⟩ := nZ hs h
      generalize (aU s).1 = v at *
      generalize (aU s).2 = n at *
      subst e hn
      have hd : (bv v ++ r).drop (bv v).length = r := List.drop_left' rfl
      rw [hd] at ih ⊢
      rw [List.take_length_add_append, aaV hc, List.all_cons, h, ih]
      rfl
    · simp [dD]
theorem ng (t r : List UInt8) (h : (a8 t).all okV = true) : a8 (t ++ r) = a8 t ++ a8 r := by
  revert h
  revert t
  refine fo ?_ ?_
  · intro _; rw [dD]; rfl
  · intro t ht ih ha
    rw [br ht, List.all_cons, Bool.and_eq_true] at ha
    obtain ⟨r2, e, hn, hc⟩ := nZ ht ha.1
    have ho : aU (t ++ r) = aU t := by
      conv => lhs; rw [e, List.append_assoc]
      rw [jb hc.1 hc.2.1 hc.2.2, ← hn]
    have hsz := bI ht
    rw [br (s := t ++ r) (by simp [ht]), ho, List.drop_append_of_le_length hsz.2, ih ha.2, br ht]
    rfl
def aZ (n : Int) : List UInt8 := [48] ++ (if n % 2 = 1 then [59, 55] else []) ++ (if n / 2 % 2 = 1 then [59, 52] else []) ++ (if n / 4 % 2 = 1 then [59, 49] else []) ++ [109]
def kJ (o : Ot) : List UInt8 :=
  if o.1 = 1 then aX o.2.1 ++ [59] ++ aX o.2.2.1 ++ [72] else
  if o.1 = 2 then [50, 74] else
  if o.1 = 3 then [75] else
  if o.1 = 4 then aZ o.2.1 else
  if o.2.1 = 1 then [63, 50, 48, 48, 52, 104] else [63, 50, 48, 48, 52, 108]
def aL (o : Ot) : List UInt8 :=
  if o.1 = 0 then o.2.2.2 else if o.1 = 6 then [7] else if o.1 = 7 then [13] else if o.1 = 8 then [10] else [27, 91] ++ kJ o
def aW (o : Ot) : Bool :=
  if o.1 = 0 then decide (o.2.1 = 0) && decide (o.2.2.1 = 0) && (decide (o.2.2.2 ≠ []) && (a8 o.2.2.2).all okV) else
  decide (o.2.2.2 = []) && (
  if o.1 = 1 then decide (1 ≤ o.2.1) && decide (o.2.1 ≤ 1000) && (decide (1 ≤ o.2.2.1) && decide (o.2.2.1 ≤ 1000)) else
  decide (o.2.2.1 = 0) && (
  if o.1 = 4 then decide (0 ≤ o.2.1) && decide (o.2.1 ≤ 7) else
  if o.1 = 5 then decide (o.2.1 = 0) || decide (o.2.1 = 1) else
  decide (o.2.1 = 0) && (decide (2 ≤ o.1) && decide (o.1 ≤ 8))))
def bd (l : List Ot) : List UInt8 := l.flatMap aL
def mM (l : List Ot) (o : Ot) : List Ot := match l.getLast? with
  | some x => if o.1 = 0 ∧ x.1 = 0 then l.dropLast ++ [(x.1, x.2.1, x.2.2.1, x.2.2.2 ++ o.2.2.2)] else l ++ [o]
  | none => l ++ [o]
def a7 (l : List Ot) : List Ot := l.foldl mM []
def fc (c : UInt8) : Bool := decide (48 ≤ c.toNat ∧ c.toNat ≤ 57) || decide (c.toNat = 59) || decide (c.toNat = 63)
def b6 (s : List UInt8) : Nat := min 10 (s.takeWhile fc).length
def jL (p : List UInt8) : Option Ot :=
  if p.getLast? ≠ some 72 then none else
  if 59 ∉ p.dropLast then none else
  match eU (p.dropLast.takeWhile (· ≠ 59)), eU ((p.dropLast.dropWhile (· ≠ 59)).drop 1) with
  | some n, some m => if aW (1, n, m, []) then some (1, n, m, []) else none
  | _, _ => none
def eW (p : List UInt8) : Option Ot :=
  if p = [50, 74] then some (2, 0, 0, []) else
  if p = [75] then some (3, 0, 0, []) else
  if p = [63, 50, 48, 48, 52, 104] then some (5, 1, 0, []) else
  if p = [63, 50, 48, 48, 52, 108] then some (5, 0, 0, []) else
  match (List.range 8).find? (fun (a : Nat) => decide (p = aZ (a : Int))) with
  | some a => some (4, (a : Int), 0, [])
  | none => jL p
def lK (s : List UInt8) : Option (Ot × Nat) :=
  if s.length ≤ b6 s ∨ 10 ≤ b6 s then none else (eW (s.take (b6 s + 1))).map fun o => (o, b6 s + 1)
def dU (s : List UInt8) : Option (Ot × Nat) := match s with
  | [] => none
  | c :: r =>
    if c = 7 then some ((6, 0, 0, []), 1) else
    if c = 13 then some ((7, 0, 0, []), 1) else
    if c = 10 then some ((8, 0, 0, []), 1) else
    if s.take 2 = [27, 91] then (lK (s.drop 2)).map fun p => (p.1, p.2 + 2) else
    if bi s = 0 then none else some ((0, 0, 0, s.take (bi s)), bi s)
end Go.Proofs.YticllcglldbffaaDoor.Ab
