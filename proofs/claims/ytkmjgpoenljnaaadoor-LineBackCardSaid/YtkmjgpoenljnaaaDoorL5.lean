/- Places of words, and lines. -/
import Derived.Test.YtkmjgpoenljnaaaDoorL4
namespace Go.Proofs.YtkmjgpoenljnaaaDoor.Ab
open Go.Proofs
set_option maxRecDepth 100000
set_option maxHeartbeats 4000000
set_option linter.unusedSimpArgs false
set_option linter.unusedVariables false
set_option linter.unnecessarySimpa false
/-- A place that a number counts as, of so many. -/
def placeI (n : Nat) (x : Int) : Nat := if x < 0 then 0 else if (n : Int) < x then n else x.toNat
theorem placeI_le (n : Nat) (x : Int) : placeI n x ≤ n := by unfold placeI; split; omega; split <;> omega
/-- The kind at a place; 9: nothing stands there. -/
def atK (l : List (Int × Int)) (i : Int) : Int := if 0 ≤ i then match l[i.toNat]? with | some p => kd p.1 | none => 9 else 9
def ofW (l : List (Int × Int)) (i : Int) : Bool := decide (atK l i = 1)
def findUp (q : Nat → Bool) (d : Nat) : Nat → Nat → Nat
  | _, 0 => d
  | a, n + 1 => if q a then a else findUp q d (a + 1) n
def findDn (q : Nat → Bool) : Nat → Nat
  | 0 => 0
  | n + 1 => if q n then n else findDn q n
theorem findUp_le (q : Nat → Bool) (d m : Nat) (hd : d ≤ m) : ∀ (n a : Nat), a + n ≤ m + 1 → findUp q d a n ≤ m
  | 0, a, h => hd
  | n + 1, a, h => by
    rw [findUp]; split
    · omega
    · exact findUp_le q d m hd n (a + 1) (by omega)
theorem findUp_ge (q : Nat → Bool) (d m : Nat) (hd : m ≤ d) : ∀ (n a : Nat), m ≤ a → m ≤ findUp q d a n
  | 0, a, h => hd
  | n + 1, a, h => by
    rw [findUp]; split
    · exact h
    · exact findUp_ge q d m hd n (a + 1) (by omega)
theorem findDn_le (q : Nat → Bool) : ∀ (n : Nat), findDn q n ≤ n
  | 0 => Nat.le_refl _
  | n + 1 => by
    rw [findDn]; split
    · omega
    · have := findDn_le q n; omega
theorem findUp_skip (q : Nat → Bool) (d p : Nat) : ∀ (n a : Nat), a ≤ p + 1 → p + 1 ≤ a + n → findUp (fun i => decide (p < i) && q i) d a n = findUp q d (p + 1) (a + n - (p + 1))
  | 0, a, h1, h2 => by
    have : a = p + 1 := by omega
    subst this
    simp [findUp]
  | n + 1, a, h1, h2 => by
    by_cases ha : a = p + 1
    · subst ha
      rw [show p + 1 + (n + 1) - (p + 1) = n + 1 by omega]
      have : ∀ (m b : Nat), p < b → findUp (fun i => decide (p < i) && q i) d b m = findUp q d b m := by
        intro m
        induction m with
        | zero => intro b hb; rfl
        | succ m ih => intro b hb; rw [findUp, findUp, ih (b + 1) (by omega)]; simp [hb]
      exact this _ _ (by omega)
    · rw [findUp, if_neg (by simp; omega), findUp_skip q d p n (a + 1) (by omega) (by omega)]
      congr 1; omega
theorem findDn_skip (q : Nat → Bool) (p : Nat) : ∀ (n : Nat), p ≤ n → findDn (fun i => decide (i < p) && q i) n = findDn q p
  | 0, h => by
    have : p = 0 := by omega
    subst this; rfl
  | n + 1, h => by
    by_cases hp : p = n + 1
    · subst hp
      have : ∀ m, m ≤ n + 1 → findDn (fun i => decide (i < n + 1) && q i) m = findDn q m := by
        intro m
        induction m with
        | zero => intro _; rfl
        | succ m ih => intro hm; rw [findDn, findDn, ih (by omega)]; simp [show m < n + 1 by omega]
      exact this _ (Nat.le_refl _)
    · rw [findDn, if_neg (by simp; omega), findDn_skip q p n (by omega)]
def qN (l : List (Int × Int)) (i : Nat) : Bool := ofW l (i - 1) && !ofW l i
def qB (l : List (Int × Int)) (i : Nat) : Bool := ofW l i && !ofW l (i - 1)
def nextW (l : List (Int × Int)) (at_ : Int) : Nat := findUp (qN l) l.length (placeI l.length at_ + 1) (l.length - placeI l.length at_)
def backW (l : List (Int × Int)) (at_ : Int) : Nat := findDn (qB l) (placeI l.length at_)
theorem nextW_le (l : List (Int × Int)) (x : Int) : nextW l x ≤ l.length := findUp_le _ _ _ (Nat.le_refl _) _ _ (by have := placeI_le l.length x; omega)
theorem backW_le (l : List (Int × Int)) (x : Int) : backW l x ≤ l.length := Nat.le_trans (findDn_le _ _) (placeI_le _ _)
theorem atK_nat (l : List (Int × Int)) (i : Nat) {p : Int × Int} (h : l[i]? = some p) : atK l i = kd p.1 := by simp [atK, h]
theorem atK_out (l : List (Int × Int)) (i : Int) (h : i < 0 ∨ l.length ≤ i) : atK l i = 9 := by
  unfold atK
  split
  · rw [List.getElem?_eq_none (by omega)]
  · rfl
section
variable {k : Nat → List Value → Option Value} (hk : ∀ f, Open k f)
include hk
theorem low_ok (a b : Int) : PC (XK k) 23 [.c (.int .i64 a), .c (.int .i64 b)] (.c (.int .i64 (if a < b then a else b))) := by
  refine PC_of fun s => ?_
  refine f23_in (hk _) ?_
  (try (simp -implicitDefEqProofs (maxSteps := 2000000) (disch := first | omega | (simp only [vz_push, vz_set, drop_size]; done) | (simp only [vz_push, vz_set, drop_size]; omega)) only [push_cast, seval, f23N0, f23N1])) <;> (repeat' ((first | apply ga_dec | apply ga_ndec | apply cd_dec | apply cd_ndec | apply gd_dec | apply gd_ndec | apply ga_split | apply cd_split | apply gd_split) <;> intro hc <;> try (simp -implicitDefEqProofs (maxSteps := 2000000) (disch := first | omega | (simp only [vz_push, vz_set, drop_size]; done) | (simp only [vz_push, vz_set, drop_size]; omega)) only [push_cast, seval, f23N0, f23N1, hc])))
  · exact out_int (by (repeat first | assumption | exact KeepA.refl _ | apply KeepA.push | refine KeepA.set ?_ (by first | omega | (simp only [vz_push, vz_set, drop_size]; omega) | (have h9 := KeepA.size_le (by assumption); (try simp only [vz_push, vz_set, drop_size] at *); omega)) _ | refine KeepA.drop ?_ (by first | omega | (simp only [vz_push, vz_set, drop_size]; omega) | (have h9 := KeepA.size_le (by assumption); (try simp only [vz_push, vz_set, drop_size] at *); omega)) | refine KeepA.trans ?_ (by assumption))) (by first | rfl | rw [if_pos hc])
  · exact out_int (by (repeat first | assumption | exact KeepA.refl _ | apply KeepA.push | refine KeepA.set ?_ (by first | omega | (simp only [vz_push, vz_set, drop_size]; omega) | (have h9 := KeepA.size_le (by assumption); (try simp only [vz_push, vz_set, drop_size] at *); omega)) _ | refine KeepA.drop ?_ (by first | omega | (simp only [vz_push, vz_set, drop_size]; omega) | (have h9 := KeepA.size_le (by assumption); (try simp only [vz_push, vz_set, drop_size] at *); omega)) | refine KeepA.trans ?_ (by assumption))) (by first | rfl | rw [if_neg hc])
theorem high_ok (a b : Int) : PC (XK k) 73 [.c (.int .i64 a), .c (.int .i64 b)] (.c (.int .i64 (if b < a then a else b))) := by
  refine PC_of fun s => ?_
  refine f73_in (hk _) ?_
  (try (simp -implicitDefEqProofs (maxSteps := 2000000) (disch := first | omega | (simp only [vz_push, vz_set, drop_size]; done) | (simp only [vz_push, vz_set, drop_size]; omega)) only [push_cast, seval, f73N0, f73N1])) <;> (repeat' ((first | apply ga_dec | apply ga_ndec | apply cd_dec | apply cd_ndec | apply gd_dec | apply gd_ndec | apply ga_split | apply cd_split | apply gd_split) <;> intro hc <;> try (simp -implicitDefEqProofs (maxSteps := 2000000) (disch := first | omega | (simp only [vz_push, vz_set, drop_size]; done) | (simp only [vz_push, vz_set, drop_size]; omega)) only [push_cast, seval, f73N0, f73N1, hc])))
  · exact out_int (by (repeat first | assumption | exact KeepA.refl _ | apply KeepA.push | refine KeepA.set ?_ (by first | omega | (simp only [vz_push, vz_set, drop_size]; omega) | (have h9 := KeepA.size_le (by assumption); (try simp only [vz_push, vz_set, drop_size] at *); omega)) _ | refine KeepA.drop ?_ (by first | omega | (simp only [vz_push, vz_set, drop_size]; omega) | (have h9 := KeepA.size_le (by assumption); (try simp only [vz_push, vz_set, drop_size] at *); omega)) | refine KeepA.trans ?_ (by assumption))) (by first | rfl | rw [if_pos hc])
  · exact out_int (by (repeat first | assumption | exact KeepA.refl _ | apply KeepA.push | refine KeepA.set ?_ (by first | omega | (simp only [vz_push, vz_set, drop_size]; omega) | (have h9 := KeepA.size_le (by assumption); (try simp only [vz_push, vz_set, drop_size] at *); omega)) _ | refine KeepA.drop ?_ (by first | omega | (simp only [vz_push, vz_set, drop_size]; omega) | (have h9 := KeepA.size_le (by assumption); (try simp only [vz_push, vz_set, drop_size] at *); omega)) | refine KeepA.trans ?_ (by assumption))) (by first | rfl | rw [if_neg hc])
omit hk in
theorem place_eq (n : Nat) (x : Int) : (if (if 0 < x then x else 0) < (n : Int) then (if 0 < x then x else 0) else (n : Int)) = (placeI n x : Int) := by
  unfold placeI
  (repeat' split) <;> omega
theorem rplace_ok (n : Nat) (x : Int) : PC (XK k) 24 [.c (.int .i64 n), .c (.int .i64 x)] (.c (.int .i64 (placeI n x))) := by
  refine PC_of fun s => ?_
  refine f24_in (hk _) ?_
  (try (simp -implicitDefEqProofs (maxSteps := 2000000) (disch := first | omega | (simp only [vz_push, vz_set, drop_size]; done) | (simp only [vz_push, vz_set, drop_size]; omega)) only [push_cast, seval, f24N0])) <;> (repeat' ((first | apply ga_dec | apply ga_ndec | apply cd_dec | apply cd_ndec | apply gd_dec | apply gd_ndec | apply ga_split | apply cd_split | apply gd_split) <;> intro hc <;> try (simp -implicitDefEqProofs (maxSteps := 2000000) (disch := first | omega | (simp only [vz_push, vz_set, drop_size]; done) | (simp only [vz_push, vz_set, drop_size]; omega)) only [push_cast, seval, f24N0, hc])))
  refine VC_pure (high_ok hk _ _) ?_
  (try (simp -implicitDefEqProofs (maxSteps := 2000000) (disch := first | omega | (simp only [vz_push, vz_set, drop_size]; done) | (simp only [vz_push, vz_set, drop_size]; omega)) only [push_cast, seval, f24N0])) <;> (repeat' ((first | apply ga_dec | apply ga_ndec | apply cd_dec | apply cd_ndec | apply gd_dec | apply gd_ndec | apply ga_split | apply cd_split | apply gd_split) <;> intro hc <;> try (simp -implicitDefEqProofs (maxSteps := 2000000) (disch := first | omega | (simp only [vz_push, vz_set, drop_size]; done) | (simp only [vz_push, vz_set, drop_size]; omega)) only [push_cast, seval, f24N0, hc])))
  refine VC_pure (low_ok hk _ _) ?_
  (try (simp -implicitDefEqProofs (maxSteps := 2000000) (disch := first | omega | (simp only [vz_push, vz_set, drop_size]; done) | (simp only [vz_push, vz_set, drop_size]; omega)) only [push_cast, seval, f24N0])) <;> (repeat' ((first | apply ga_dec | apply ga_ndec | apply cd_dec | apply cd_ndec | apply gd_dec | apply gd_ndec | apply ga_split | apply cd_split | apply gd_split) <;> intro hc <;> try (simp -implicitDefEqProofs (maxSteps := 2000000) (disch := first | omega | (simp only [vz_push, vz_set, drop_size]; done) | (simp only [vz_push, vz_set, drop_size]; omega)) only [push_cast, seval, f24N0, hc])))
  exact out_int (by (repeat first | assumption | exact KeepA.refl _ | apply KeepA.push | refine KeepA.set ?_ (by first | omega | (simp only [vz_push, vz_set, drop_size]; omega) | (have h9 := KeepA.size_le (by assumption); (try simp only [vz_push, vz_set, drop_size] at *); omega)) _ | refine KeepA.drop ?_ (by first | omega | (simp only [vz_push, vz_set, drop_size]; omega) | (have h9 := KeepA.size_le (by assumption); (try simp only [vz_push, vz_set, drop_size] at *); omega)) | refine KeepA.trans ?_ (by assumption))) (place_eq n x)
theorem rplace5_ok (l : List (Int × Int)) (x : Int) : PC (XK k) 106 [LS l, .c (.int .i64 x)] (.c (.int .i64 (placeI l.length x))) := by
  refine PC_of fun s => ?_
  refine f106_in (hk _) ?_
  (try (simp -implicitDefEqProofs (maxSteps := 2000000) (disch := first | omega | (simp only [vz_push, vz_set, drop_size]; done) | (simp only [vz_push, vz_set, drop_size]; omega)) only [push_cast, seval, f106N0])) <;> (repeat' ((first | apply ga_dec | apply ga_ndec | apply cd_dec | apply cd_ndec | apply gd_dec | apply gd_ndec | apply ga_split | apply cd_split | apply gd_split) <;> intro hc <;> try (simp -implicitDefEqProofs (maxSteps := 2000000) (disch := first | omega | (simp only [vz_push, vz_set, drop_size]; done) | (simp only [vz_push, vz_set, drop_size]; omega)) only [push_cast, seval, f106N0, hc])))
  refine VC_pure (high_ok hk _ _) ?_
  (try (simp -implicitDefEqProofs (maxSteps := 2000000) (disch := first | omega | (simp only [vz_push, vz_set, drop_size]; done) | (simp only [vz_push, vz_set, drop_size]; omega)) only [push_cast, seval, f106N0])) <;> (repeat' ((first | apply ga_dec | apply ga_ndec | apply cd_dec | apply cd_ndec | apply gd_dec | apply gd_ndec | apply ga_split | apply cd_split | apply gd_split) <;> intro hc <;> try (simp -implicitDefEqProofs (maxSteps := 2000000) (disch := first | omega | (simp only [vz_push, vz_set, drop_size]; done) | (simp only [vz_push, vz_set, drop_size]; omega)) only [push_cast, seval, f106N0, hc])))
  refine VC_pure (low_ok hk _ _) ?_
  (try (simp -implicitDefEqProofs (maxSteps := 2000000) (disch := first | omega | (simp only [vz_push, vz_set, drop_size]; done) | (simp only [vz_push, vz_set, drop_size]; omega)) only [push_cast, seval, f106N0])) <;> (repeat' ((first | apply ga_dec | apply ga_ndec | apply cd_dec | apply cd_ndec | apply gd_dec | apply gd_ndec | apply ga_split | apply cd_split | apply gd_split) <;> intro hc <;> try (simp -implicitDefEqProofs (maxSteps := 2000000) (disch := first | omega | (simp only [vz_push, vz_set, drop_size]; done) | (simp only [vz_push, vz_set, drop_size]; omega)) only [push_cast, seval, f106N0, hc])))
  exact out_int (by (repeat first | assumption | exact KeepA.refl _ | apply KeepA.push | refine KeepA.set ?_ (by first | omega | (simp only [vz_push, vz_set, drop_size]; omega) | (have h9 := KeepA.size_le (by assumption); (try simp only [vz_push, vz_set, drop_size] at *); omega)) _ | refine KeepA.drop ?_ (by first | omega | (simp only [vz_push, vz_set, drop_size]; omega) | (have h9 := KeepA.size_le (by assumption); (try simp only [vz_push, vz_set, drop_size] at *); omega)) | refine KeepA.trans ?_ (by assumption))) (place_eq l.length x)
theorem wplace_ok (l : List (Int × Int)) (x : Int) : PC (XK k) 104 [LS l, .c (.int .i64 x)] (.c (.int .i64 (placeI l.length x))) := by
  refine PC_of fun s => ?_
  refine f104_in (hk _) ?_
  (try (simp -implicitDefEqProofs (maxSteps := 2000000) (disch := first | omega | (simp only [vz_push, vz_set, drop_size]; done) | (simp only [vz_push, vz_set, drop_size]; omega)) only [push_cast, seval, f104N0])) <;> (repeat' ((first | apply ga_dec | apply ga_ndec | apply cd_dec | apply cd_ndec | apply gd_dec | apply gd_ndec | apply ga_split | apply cd_split | apply gd_split) <;> intro hc <;> try (simp -implicitDefEqProofs (maxSteps := 2000000) (disch := first | omega | (simp only [vz_push, vz_set, drop_size]; done) | (simp only [vz_push, vz_set, drop_size]; omega)) only [push_cast, seval, f104N0, hc])))
  refine out_int (by (repeat first | assumption | exact KeepA.refl _ | apply KeepA.push | refine KeepA.set ?_ (by first | omega | (simp only [vz_push, vz_set, drop_size]; omega) | (have h9 := KeepA.size_le (by assumption); (try simp only [vz_push, vz_set, drop_size] at *); omega)) _ | refine KeepA.drop ?_ (by first | omega | (simp only [vz_push, vz_set, drop_size]; omega) | (have h9 := KeepA.size_le (by assumption); (try simp only [vz_push, vz_set, drop_size] at *); omega)) | refine KeepA.trans ?_ (by assumption))) ?_
  unfold placeI
  (repeat' split) <;> omega
theorem ofWord_ok (l : List (Int × Int)) (i : Int) : PC (XK k) 105 [LS l, .c (.int .i64 i)] (.c (.bool (ofW l i))) := by
  refine PC_of fun s => ?_
  refine f105_in (hk _) ?_
  by_cases h : 0 ≤ i ∧ i < l.length
  · have hx := List.getElem?_eq_getElem (show i.toNat < l.length by omega)
    generalize l[i.toNat] = x at hx
    (try (simp -implicitDefEqProofs (maxSteps := 2000000) (disch := first | omega | (simp only [vz_push, vz_set, drop_size]; done) | (simp only [vz_push, vz_set, drop_size]; omega)) only [push_cast, seval, f105N0, hx, eS])) <;> (repeat' ((first | apply ga_dec | apply ga_ndec | apply cd_dec | apply cd_ndec | apply gd_dec | apply gd_ndec | apply ga_split | apply cd_split | apply gd_split) <;> intro hc <;> try (simp -implicitDefEqProofs (maxSteps := 2000000) (disch := first | omega | (simp only [vz_push, vz_set, drop_size]; done) | (simp only [vz_push, vz_set, drop_size]; omega)) only [push_cast, seval, f105N0, hc, hx, eS])))
    all_goals first | (exfalso; omega) | skip
    refine VC_pure (kind_ok hk _) ?_
    (try (simp -implicitDefEqProofs (maxSteps := 2000000) (disch := first | omega | (simp only [vz_push, vz_set, drop_size]; done) | (simp only [vz_push, vz_set, drop_size]; omega)) only [push_cast, seval, f105N0])) <;> (repeat' ((first | apply ga_dec | apply ga_ndec | apply cd_dec | apply cd_ndec | apply gd_dec | apply gd_ndec | apply ga_split | apply cd_split | apply gd_split) <;> intro hc <;> try (simp -implicitDefEqProofs (maxSteps := 2000000) (disch := first | omega | (simp only [vz_push, vz_set, drop_size]; done) | (simp only [vz_push, vz_set, drop_size]; omega)) only [push_cast, seval, f105N0, hc])))
    exact out_bool (by (repeat first | assumption | exact KeepA.refl _ | apply KeepA.push | refine KeepA.set ?_ (by first | omega | (simp only [vz_push, vz_set, drop_size]; omega) | (have h9 := KeepA.size_le (by assumption); (try simp only [vz_push, vz_set, drop_size] at *); omega)) _ | refine KeepA.drop ?_ (by first | omega | (simp only [vz_push, vz_set, drop_size]; omega) | (have h9 := KeepA.size_le (by assumption); (try simp only [vz_push, vz_set, drop_size] at *); omega)) | refine KeepA.trans ?_ (by assumption))) (by simp [ofW, atK, hx, h.1])
  · (try (simp -implicitDefEqProofs (maxSteps := 2000000) (disch := first | omega | (simp only [vz_push, vz_set, drop_size]; done) | (simp only [vz_push, vz_set, drop_size]; omega)) only [push_cast, seval, f105N0])) <;> (repeat' ((first | apply ga_dec | apply ga_ndec | apply cd_dec | apply cd_ndec | apply gd_dec | apply gd_ndec | apply ga_split | apply cd_split | apply gd_split) <;> intro hc <;> try (simp -implicitDefEqProofs (maxSteps := 2000000) (disch := first | omega | (simp only [vz_push, vz_set, drop_size]; done) | (simp only [vz_push, vz_set, drop_size]; omega)) only [push_cast, seval, f105N0, hc])))
    all_goals first | (exfalso; omega) | skip
    all_goals exact out_bool (by (repeat first | assumption | exact KeepA.refl _ | apply KeepA.push | refine KeepA.set ?_ (by first | omega | (simp only [vz_push, vz_set, drop_size]; omega) | (have h9 := KeepA.size_le (by assumption); (try simp only [vz_push, vz_set, drop_size] at *); omega)) _ | refine KeepA.drop ?_ (by first | omega | (simp only [vz_push, vz_set, drop_size]; omega) | (have h9 := KeepA.size_le (by assumption); (try simp only [vz_push, vz_set, drop_size] at *); omega)) | refine KeepA.trans ?_ (by assumption))) (by simp [ofW, atK_out l i (by omega)])
theorem rat_ok (l : List (Int × Int)) (i : Int) : PC (XK k) 71 [LS l, .c (.int .i64 i), .c (.bool false)] (.c (.int .i64 (atK l i))) := by
  refine PC_of fun s => ?_
  refine f71_in (hk _) ?_
  by_cases h : 0 ≤ i ∧ i < l.length
  · have hx := List.getElem?_eq_getElem (show i.toNat < l.length by omega)
    generalize l[i.toNat] = x at hx
    (try (simp -implicitDefEqProofs (maxSteps := 2000000) (disch := first | omega | (simp only [vz_push, vz_set, drop_size]; done) | (simp only [vz_push, vz_set, drop_size]; omega)) only [push_cast, seval, f71N0, f71N1, hx, eS])) <;> (repeat' ((first | apply ga_dec | apply ga_ndec | apply cd_dec | apply cd_ndec | apply gd_dec | apply gd_ndec | apply ga_split | apply cd_split | apply gd_split) <;> intro hc <;> try (simp -implicitDefEqProofs (maxSteps := 2000000) (disch := first | omega | (simp only [vz_push, vz_set, drop_size]; done) | (simp only [vz_push, vz_set, drop_size]; omega)) only [push_cast, seval, f71N0, f71N1, hc, hx, eS])))
    all_goals first | (exfalso; omega) | skip
    refine VC_pure (rkind_ok hk _) ?_
    (try (simp -implicitDefEqProofs (maxSteps := 2000000) (disch := first | omega | (simp only [vz_push, vz_set, drop_size]; done) | (simp only [vz_push, vz_set, drop_size]; omega)) only [push_cast, seval, f71N0, f71N1])) <;> (repeat' ((first | apply ga_dec | apply ga_ndec | apply cd_dec | apply cd_ndec | apply gd_dec | apply gd_ndec | apply ga_split | apply cd_split | apply gd_split) <;> intro hc <;> try (simp -implicitDefEqProofs (maxSteps := 2000000) (disch := first | omega | (simp only [vz_push, vz_set, drop_size]; done) | (simp only [vz_push, vz_set, drop_size]; omega)) only [push_cast, seval, f71N0, f71N1, hc])))
    exact out_int (by (repeat first | assumption | exact KeepA.refl _ | apply KeepA.push | refine KeepA.set ?_ (by first | omega | (simp only [vz_push, vz_set, drop_size]; omega) | (have h9 := KeepA.size_le (by assumption); (try simp only [vz_push, vz_set, drop_size] at *); omega)) _ | refine KeepA.drop ?_ (by first | omega | (simp only [vz_push, vz_set, drop_size]; omega) | (have h9 := KeepA.size_le (by assumption); (try simp only [vz_push, vz_set, drop_size] at *); omega)) | refine KeepA.trans ?_ (by assumption))) (by simp [atK, hx, h.1])
  · (try (simp -implicitDefEqProofs (maxSteps := 2000000) (disch := first | omega | (simp only [vz_push, vz_set, drop_size]; done) | (simp only [vz_push, vz_set, drop_size]; omega)) only [push_cast, seval, f71N0, f71N1])) <;> (repeat' ((first | apply ga_dec | apply ga_ndec | apply cd_dec | apply cd_ndec | apply gd_dec | apply gd_ndec | apply ga_split | apply cd_split | apply gd_split) <;> intro hc <;> try (simp -implicitDefEqProofs (maxSteps := 2000000) (disch := first | omega | (simp only [vz_push, vz_set, drop_size]; done) | (simp only [vz_push, vz_set, drop_size]; omega)) only [push_cast, seval, f71N0, f71N1, hc])))
    all_goals first | (exfalso; omega) | skip
    all_goals exact out_int (by (repeat first | assumption | exact KeepA.refl _ | apply KeepA.push | refine KeepA.set ?_ (by first | omega | (simp only [vz_push, vz_set, drop_size]; omega) | (have h9 := KeepA.size_le (by assumption); (try simp only [vz_push, vz_set, drop_size] at *); omega)) _ | refine KeepA.drop ?_ (by first | omega | (simp only [vz_push, vz_set, drop_size]; omega) | (have h9 := KeepA.size_le (by assumption); (try simp only [vz_push, vz_set, drop_size] at *); omega)) | refine KeepA.trans ?_ (by assumption))) (by rw [atK_out l i (by omega)])
end
attribute [irreducible] ofW atK placeI nextW backW
end Go.Proofs.YtkmjgpoenljnaaaDoor.Ab
/- Where words begin and end. -/
namespace Go.Proofs.YtkmjgpoenljnaaaDoor.Ab
open Go.Proofs
set_option maxRecDepth 100000
set_option maxHeartbeats 4000000
set_option linter.unusedSimpArgs false
set_option linter.unusedVariables false
set_option linter.unnecessarySimpa false
theorem qN_t {l : List (Int × Int)} {i : Nat} (h1 : ofW l ((i : Int) - 1) = true) (h2 : (!ofW l i) = true) : qN l i = true := by unfold qN; rw [h1, h2]; rfl
theorem qN_f1 {l : List (Int × Int)} {i : Nat} (h1 : ofW l ((i : Int) - 1) = false) : ¬ qN l i = true := by unfold qN; rw [h1]; simp
theorem qN_f2 {l : List (Int × Int)} {i : Nat} (h2 : (!ofW l i) = false) : ¬ qN l i = true := by unfold qN; rw [h2]; simp
theorem qB_t {l : List (Int × Int)} {i : Nat} (h1 : ofW l i = true) (h2 : (!ofW l ((i : Int) - 1)) = true) : qB l i = true := by unfold qB; rw [h1, h2]; rfl
theorem qB_f1 {l : List (Int × Int)} {i : Nat} (h1 : ofW l i = false) : ¬ qB l i = true := by unfold qB; rw [h1]; simp
theorem qB_f2 {l : List (Int × Int)} {i : Nat} (h2 : (!ofW l ((i : Int) - 1)) = false) : ¬ qB l i = true := by unfold qB; rw [h2]; simp
section
variable {k : Nat → List Value → Option Value} (hk : ∀ f, Open k f)
include hk
theorem next_ok (l : List (Int × Int)) (x : Int) (hn : l.length < 1000000) : PC (XK k) 67 [LS l, .c (.int .i64 x)] (.c (.int .i64 (nextW l x))) := by
  refine PC_of fun s => ?_
  refine f67_in (hk _) ?_
  have hp := placeI_le l.length x
  (try (simp -implicitDefEqProofs (maxSteps := 2000000) (disch := first | omega | (simp only [vz_push, vz_set, drop_size]; done) | (simp only [vz_push, vz_set, drop_size]; omega)) only [push_cast, seval, f67N0, f67N1, f67N2])) <;> (repeat' ((first | apply ga_dec | apply ga_ndec | apply cd_dec | apply cd_ndec | apply gd_dec | apply gd_ndec | apply ga_split | apply cd_split | apply gd_split) <;> intro hc <;> try (simp -implicitDefEqProofs (maxSteps := 2000000) (disch := first | omega | (simp only [vz_push, vz_set, drop_size]; done) | (simp only [vz_push, vz_set, drop_size]; omega)) only [push_cast, seval, f67N0, f67N1, f67N2, hc])))
  refine VC_pure (wplace_ok hk _ _) ?_
  (try (simp -implicitDefEqProofs (maxSteps := 2000000) (disch := first | omega | (simp only [vz_push, vz_set, drop_size]; done) | (simp only [vz_push, vz_set, drop_size]; omega)) only [push_cast, seval, f67N0, f67N1, f67N2])) <;> (repeat' ((first | apply ga_dec | apply ga_ndec | apply cd_dec | apply cd_ndec | apply gd_dec | apply gd_ndec | apply ga_split | apply cd_split | apply gd_split) <;> intro hc <;> try (simp -implicitDefEqProofs (maxSteps := 2000000) (disch := first | omega | (simp only [vz_push, vz_set, drop_size]; done) | (simp only [vz_push, vz_set, drop_size]; omega)) only [push_cast, seval, f67N0, f67N1, f67N2, hc])))
  refine VW_iter (fun m ρ s' => ∃ i : Nat, m = l.length + 1 - i ∧ i ≤ l.length + 1 ∧ ρ.get 0 = LS l ∧ ρ.get 5 = .c (.int .i64 i) ∧ s' = s ∧ nextW l x = findUp (qN l) l.length i (l.length + 1 - i)) (l.length + 1 - (placeI l.length x + 1)) ⟨placeI l.length x + 1, rfl, by omega, by (((try simp -implicitDefEqProofs only [eA_tmp, eA_const, AEnv.get_set, ofA_get, List.getD_cons_zero, List.getD_cons_succ, ↓reduceIte, reduceCtorEq, Nat.reduceEqDiff]); try (first | (with_reducible assumption) | (with_reducible rfl) | (congr 2 <;> omega) | rfl))), by (((try simp -implicitDefEqProofs only [eA_tmp, eA_const, AEnv.get_set, ofA_get, List.getD_cons_zero, List.getD_cons_succ, ↓reduceIte, reduceCtorEq, Nat.reduceEqDiff]); try (first | (with_reducible assumption) | (with_reducible rfl) | (congr 2 <;> omega) | rfl))), rfl, by unfold nextW; congr 1; omega⟩ ?_
  rintro m ρ s' ⟨i, rfl, hi, g0, g5, rfl, hf⟩
  simp -implicitDefEqProofs (maxSteps := 2000000) (disch := first | omega | (simp only [vz_push, vz_set, drop_size]; done) | (simp only [vz_push, vz_set, drop_size]; omega)) only [push_cast, seval, f67N0, f67N1, f67N2, g0, g5]
  refine cd_dec (fun hc => ?_) (fun hc => ?_)
  · rw [show l.length + 1 - i = (l.length - i) + 1 by omega, findUp] at hf
    simp -implicitDefEqProofs (maxSteps := 2000000) (disch := first | omega | (simp only [vz_push, vz_set, drop_size]; done) | (simp only [vz_push, vz_set, drop_size]; omega)) only [push_cast, seval, f67N0, f67N1, f67N2, g0, g5]
    refine VC_pure (ofWord_ok hk _ _) ?_
    (try (simp -implicitDefEqProofs (maxSteps := 2000000) (disch := first | omega | (simp only [vz_push, vz_set, drop_size]; done) | (simp only [vz_push, vz_set, drop_size]; omega)) only [push_cast, seval, f67N0, f67N1, f67N2, g0, g5])) <;> (repeat' ((first | apply ga_dec | apply ga_ndec | apply cd_dec | apply cd_ndec | apply gd_dec | apply gd_ndec | apply ga_split | apply cd_split | apply gd_split) <;> intro hc <;> try (simp -implicitDefEqProofs (maxSteps := 2000000) (disch := first | omega | (simp only [vz_push, vz_set, drop_size]; done) | (simp only [vz_push, vz_set, drop_size]; omega)) only [push_cast, seval, f67N0, f67N1, f67N2, hc, g0, g5])))
    · refine VC_pure (ofWord_ok hk _ _) ?_
      (try (simp -implicitDefEqProofs (maxSteps := 2000000) (disch := first | omega | (simp only [vz_push, vz_set, drop_size]; done) | (simp only [vz_push, vz_set, drop_size]; omega)) only [push_cast, seval, f67N0, f67N1, f67N2, g0, g5])) <;> (repeat' ((first | apply ga_dec | apply ga_ndec | apply cd_dec | apply cd_ndec | apply gd_dec | apply gd_ndec | apply ga_split | apply cd_split | apply gd_split) <;> intro hc <;> try (simp -implicitDefEqProofs (maxSteps := 2000000) (disch := first | omega | (simp only [vz_push, vz_set, drop_size]; done) | (simp only [vz_push, vz_set, drop_size]; omega)) only [push_cast, seval, f67N0, f67N1, f67N2, hc, g0, g5])))
      · rw [if_pos (qN_t (by assumption) (by assumption))] at hf
        exact out_int (by (repeat first | assumption | exact KeepA.refl _ | apply KeepA.push | refine KeepA.set ?_ (by first | omega | (simp only [vz_push, vz_set, drop_size]; omega) | (have h9 := KeepA.size_le (by assumption); (try simp only [vz_push, vz_set, drop_size] at *); omega)) _ | refine KeepA.drop ?_ (by first | omega | (simp only [vz_push, vz_set, drop_size]; omega) | (have h9 := KeepA.size_le (by assumption); (try simp only [vz_push, vz_set, drop_size] at *); omega)) | refine KeepA.trans ?_ (by assumption))) (by rw [hf])
      · rw [if_neg (by first | exact qN_f1 (by assumption) | exact qN_f2 (by assumption))] at hf
        refine ⟨l.length + 1 - (i + 1), by omega, i + 1, rfl, by omega, by congr 2, ?_⟩
        rw [hf]; congr 1; omega
    · rw [if_neg (by first | exact qN_f1 (by assumption) | exact qN_f2 (by assumption))] at hf
      refine ⟨l.length + 1 - (i + 1), by omega, i + 1, rfl, by omega, by congr 2, ?_⟩
      rw [hf]; congr 1; omega
  · simp -implicitDefEqProofs (maxSteps := 2000000) (disch := first | omega | (simp only [vz_push, vz_set, drop_size]; done) | (simp only [vz_push, vz_set, drop_size]; omega)) only [push_cast, seval, f67N0, f67N1, f67N2, g0]
    rw [show l.length + 1 - i = 0 by omega, findUp] at hf
    exact out_int (by (repeat first | assumption | exact KeepA.refl _ | apply KeepA.push | refine KeepA.set ?_ (by first | omega | (simp only [vz_push, vz_set, drop_size]; omega) | (have h9 := KeepA.size_le (by assumption); (try simp only [vz_push, vz_set, drop_size] at *); omega)) _ | refine KeepA.drop ?_ (by first | omega | (simp only [vz_push, vz_set, drop_size]; omega) | (have h9 := KeepA.size_le (by assumption); (try simp only [vz_push, vz_set, drop_size] at *); omega)) | refine KeepA.trans ?_ (by assumption))) (by rw [hf])
theorem back_ok (l : List (Int × Int)) (x : Int) (hn : l.length < 1000000) : PC (XK k) 66 [LS l, .c (.int .i64 x)] (.c (.int .i64 (backW l x))) := by
  refine PC_of fun s => ?_
  refine f66_in (hk _) ?_
  have hp := placeI_le l.length x
  (try (simp -implicitDefEqProofs (maxSteps := 2000000) (disch := first | omega | (simp only [vz_push, vz_set, drop_size]; done) | (simp only [vz_push, vz_set, drop_size]; omega)) only [push_cast, seval, f66N0, f66N1, f66N2])) <;> (repeat' ((first | apply ga_dec | apply ga_ndec | apply cd_dec | apply cd_ndec | apply gd_dec | apply gd_ndec | apply ga_split | apply cd_split | apply gd_split) <;> intro hc <;> try (simp -implicitDefEqProofs (maxSteps := 2000000) (disch := first | omega | (simp only [vz_push, vz_set, drop_size]; done) | (simp only [vz_push, vz_set, drop_size]; omega)) only [push_cast, seval, f66N0, f66N1, f66N2, hc])))
  refine VC_pure (wplace_ok hk _ _) ?_
  (try (simp -implicitDefEqProofs (maxSteps := 2000000) (disch := first | omega | (simp only [vz_push, vz_set, drop_size]; done) | (simp only [vz_push, vz_set, drop_size]; omega)) only [push_cast, seval, f66N0, f66N1, f66N2])) <;> (repeat' ((first | apply ga_dec | apply ga_ndec | apply cd_dec | apply cd_ndec | apply gd_dec | apply gd_ndec | apply ga_split | apply cd_split | apply gd_split) <;> intro hc <;> try (simp -implicitDefEqProofs (maxSteps := 2000000) (disch := first | omega | (simp only [vz_push, vz_set, drop_size]; done) | (simp only [vz_push, vz_set, drop_size]; omega)) only [push_cast, seval, f66N0, f66N1, f66N2, hc])))
  refine VW_iter (fun m ρ s' => m ≤ l.length ∧ ρ.get 0 = LS l ∧ ρ.get 5 = .c (.int .i64 ((m : Int) - 1)) ∧ s' = s ∧ backW l x = findDn (qB l) m) (placeI l.length x) ⟨by omega, by (((try simp -implicitDefEqProofs only [eA_tmp, eA_const, AEnv.get_set, ofA_get, List.getD_cons_zero, List.getD_cons_succ, ↓reduceIte, reduceCtorEq, Nat.reduceEqDiff]); try (first | (with_reducible assumption) | (with_reducible rfl) | (congr 2 <;> omega) | rfl))), by (((try simp -implicitDefEqProofs only [eA_tmp, eA_const, AEnv.get_set, ofA_get, List.getD_cons_zero, List.getD_cons_succ, ↓reduceIte, reduceCtorEq, Nat.reduceEqDiff]); try (first | (with_reducible assumption) | (with_reducible rfl) | (congr 2 <;> omega) | rfl))), rfl, by unfold backW; rfl⟩ ?_
  rintro m ρ s' ⟨hi, g0, g5, rfl, hf⟩
  simp -implicitDefEqProofs (maxSteps := 2000000) (disch := first | omega | (simp only [vz_push, vz_set, drop_size]; done) | (simp only [vz_push, vz_set, drop_size]; omega)) only [push_cast, seval, f66N0, f66N1, f66N2, g0, g5]
  refine cd_dec (fun hc => ?_) (fun hc => ?_)
  · obtain ⟨i, rfl⟩ : ∃ i, m = i + 1 := ⟨m - 1, by omega⟩
    have e : ((i + 1 : Nat) : Int) - 1 = i := by omega
    rw [e] at g5
    rw [findDn] at hf
    simp -implicitDefEqProofs (maxSteps := 2000000) (disch := first | omega | (simp only [vz_push, vz_set, drop_size]; done) | (simp only [vz_push, vz_set, drop_size]; omega)) only [push_cast, seval, f66N0, f66N1, f66N2, g0, g5]
    refine VC_pure (ofWord_ok hk _ _) ?_
    (try (simp -implicitDefEqProofs (maxSteps := 2000000) (disch := first | omega | (simp only [vz_push, vz_set, drop_size]; done) | (simp only [vz_push, vz_set, drop_size]; omega)) only [push_cast, seval, f66N0, f66N1, f66N2, g0, g5])) <;> (repeat' ((first | apply ga_dec | apply ga_ndec | apply cd_dec | apply cd_ndec | apply gd_dec | apply gd_ndec | apply ga_split | apply cd_split | apply gd_split) <;> intro hc <;> try (simp -implicitDefEqProofs (maxSteps := 2000000) (disch := first | omega | (simp only [vz_push, vz_set, drop_size]; done) | (simp only [vz_push, vz_set, drop_size]; omega)) only [push_cast, seval, f66N0, f66N1, f66N2, hc, g0, g5])))
    · refine VC_pure (ofWord_ok hk _ _) ?_
      (try (simp -implicitDefEqProofs (maxSteps := 2000000) (disch := first | omega | (simp only [vz_push, vz_set, drop_size]; done) | (simp only [vz_push, vz_set, drop_size]; omega)) only [push_cast, seval, f66N0, f66N1, f66N2, g0, g5])) <;> (repeat' ((first | apply ga_dec | apply ga_ndec | apply cd_dec | apply cd_ndec | apply gd_dec | apply gd_ndec | apply ga_split | apply cd_split | apply gd_split) <;> intro hc <;> try (simp -implicitDefEqProofs (maxSteps := 2000000) (disch := first | omega | (simp only [vz_push, vz_set, drop_size]; done) | (simp only [vz_push, vz_set, drop_size]; omega)) only [push_cast, seval, f66N0, f66N1, f66N2, hc, g0, g5])))
      · rw [if_pos (qB_t (by assumption) (by assumption))] at hf
        exact out_int (by (repeat first | assumption | exact KeepA.refl _ | apply KeepA.push | refine KeepA.set ?_ (by first | omega | (simp only [vz_push, vz_set, drop_size]; omega) | (have h9 := KeepA.size_le (by assumption); (try simp only [vz_push, vz_set, drop_size] at *); omega)) _ | refine KeepA.drop ?_ (by first | omega | (simp only [vz_push, vz_set, drop_size]; omega) | (have h9 := KeepA.size_le (by assumption); (try simp only [vz_push, vz_set, drop_size] at *); omega)) | refine KeepA.trans ?_ (by assumption))) (by rw [hf])
      · rw [if_neg (by first | exact qB_f1 (by assumption) | exact qB_f2 (by assumption))] at hf
        exact ⟨i, by omega, by omega, rfl, hf⟩
    · rw [if_neg (by first | exact qB_f1 (by assumption) | exact qB_f2 (by assumption))] at hf
      exact ⟨i, by omega, by omega, rfl, hf⟩
  · simp -implicitDefEqProofs (maxSteps := 2000000) (disch := first | omega | (simp only [vz_push, vz_set, drop_size]; done) | (simp only [vz_push, vz_set, drop_size]; omega)) only [push_cast, seval, f66N0, f66N1, f66N2, g0]
    have : m = 0 := by omega
    subst this
    exact out_int (by (repeat first | assumption | exact KeepA.refl _ | apply KeepA.push | refine KeepA.set ?_ (by first | omega | (simp only [vz_push, vz_set, drop_size]; omega) | (have h9 := KeepA.size_le (by assumption); (try simp only [vz_push, vz_set, drop_size] at *); omega)) _ | refine KeepA.drop ?_ (by first | omega | (simp only [vz_push, vz_set, drop_size]; omega) | (have h9 := KeepA.size_le (by assumption); (try simp only [vz_push, vz_set, drop_size] at *); omega)) | refine KeepA.trans ?_ (by assumption))) (by rw [hf]; rfl)
theorem rnext_ok (l : List (Int × Int)) (x : Int) (hn : l.length < 1000000) : PC (XK k) 70 [LS l, .c (.int .i64 x)] (.c (.int .i64 (nextW l x))) := by
  refine PC_of fun s => ?_
  refine f70_in (hk _) ?_
  have hp := placeI_le l.length x
  have e0 : nextW l x = findUp (fun i => decide (placeI l.length x < i) && qN l i) l.length 0 (l.length + 1) := by
    rw [findUp_skip _ _ _ _ _ (by omega) (by omega)]; unfold nextW; congr 1; omega
  (try (simp -implicitDefEqProofs (maxSteps := 2000000) (disch := first | omega | (simp only [vz_push, vz_set, drop_size]; done) | (simp only [vz_push, vz_set, drop_size]; omega)) only [push_cast, seval, f70N0, f70N1, f70N2])) <;> (repeat' ((first | apply ga_dec | apply ga_ndec | apply cd_dec | apply cd_ndec | apply gd_dec | apply gd_ndec | apply ga_split | apply cd_split | apply gd_split) <;> intro hc <;> try (simp -implicitDefEqProofs (maxSteps := 2000000) (disch := first | omega | (simp only [vz_push, vz_set, drop_size]; done) | (simp only [vz_push, vz_set, drop_size]; omega)) only [push_cast, seval, f70N0, f70N1, f70N2, hc])))
  refine VW_iter (fun m ρ s' => ∃ i : Nat, m = l.length + 1 - i ∧ i ≤ l.length + 1 ∧ ρ.get 0 = LS l ∧ ρ.get 1 = .c (.int .i64 x) ∧ ρ.get 5 = .c (.int .i64 i) ∧ s' = s ∧ nextW l x = findUp (fun i => decide (placeI l.length x < i) && qN l i) l.length i (l.length + 1 - i)) (l.length + 1) ⟨0, rfl, by omega, by (((try simp -implicitDefEqProofs only [eA_tmp, eA_const, AEnv.get_set, ofA_get, List.getD_cons_zero, List.getD_cons_succ, ↓reduceIte, reduceCtorEq, Nat.reduceEqDiff]); try (first | (with_reducible assumption) | (with_reducible rfl) | (congr 2 <;> omega) | rfl))), by (((try simp -implicitDefEqProofs only [eA_tmp, eA_const, AEnv.get_set, ofA_get, List.getD_cons_zero, List.getD_cons_succ, ↓reduceIte, reduceCtorEq, Nat.reduceEqDiff]); try (first | (with_reducible assumption) | (with_reducible rfl) | (congr 2 <;> omega) | rfl))), by (((try simp -implicitDefEqProofs only [eA_tmp, eA_const, AEnv.get_set, ofA_get, List.getD_cons_zero, List.getD_cons_succ, ↓reduceIte, reduceCtorEq, Nat.reduceEqDiff]); try (first | (with_reducible assumption) | (with_reducible rfl) | (congr 2 <;> omega) | rfl))), rfl, e0⟩ ?_
  rintro m ρ s' ⟨i, rfl, hi, g0, g1, g5, rfl, hf⟩
  simp -implicitDefEqProofs (maxSteps := 2000000) (disch := first | omega | (simp only [vz_push, vz_set, drop_size]; done) | (simp only [vz_push, vz_set, drop_size]; omega)) only [push_cast, seval, f70N0, f70N1, f70N2, g0, g1, g5]
  refine cd_dec (fun hc => ?_) (fun hc => ?_)
  · rw [show l.length + 1 - i = (l.length - i) + 1 by omega, findUp] at hf
    have fin : (decide (placeI l.length x < i) && qN l i) = false → ∃ m', m' < l.length + 1 - i ∧ ∃ i_1, m' = l.length + 1 - i_1 ∧ i_1 ≤ l.length + 1 ∧ AV.c (.int .i64 (↑i + 1)) = AV.c (.int .i64 (i_1 : Int)) ∧ nextW l x = findUp (fun i => decide (placeI l.length x < i) && qN l i) l.length i_1 (l.length + 1 - i_1) := by
      intro h
      rw [if_neg (by rw [h]; simp)] at hf
      refine ⟨l.length + 1 - (i + 1), by omega, i + 1, rfl, by omega, by congr 2, ?_⟩
      rw [hf]; congr 1; omega
    simp -implicitDefEqProofs (maxSteps := 2000000) (disch := first | omega | (simp only [vz_push, vz_set, drop_size]; done) | (simp only [vz_push, vz_set, drop_size]; omega)) only [push_cast, seval, f70N0, f70N1, f70N2, g0, g1, g5]
    refine VC_pure (rplace5_ok hk _ _) ?_
    (try (simp -implicitDefEqProofs (maxSteps := 2000000) (disch := first | omega | (simp only [vz_push, vz_set, drop_size]; done) | (simp only [vz_push, vz_set, drop_size]; omega)) only [push_cast, seval, f70N0, f70N1, f70N2, g0, g1, g5])) <;> (repeat' ((first | apply ga_dec | apply ga_ndec | apply cd_dec | apply cd_ndec | apply gd_dec | apply gd_ndec | apply ga_split | apply cd_split | apply gd_split) <;> intro hc <;> try (simp -implicitDefEqProofs (maxSteps := 2000000) (disch := first | omega | (simp only [vz_push, vz_set, drop_size]; done) | (simp only [vz_push, vz_set, drop_size]; omega)) only [push_cast, seval, f70N0, f70N1, f70N2, hc, g0, g1, g5])))
    · refine VC_pure (rat_ok hk _ _) ?_
      (try (simp -implicitDefEqProofs (maxSteps := 2000000) (disch := first | omega | (simp only [vz_push, vz_set, drop_size]; done) | (simp only [vz_push, vz_set, drop_size]; omega)) only [push_cast, seval, f70N0, f70N1, f70N2, g0, g1, g5])) <;> (repeat' ((first | apply ga_dec | apply ga_ndec | apply cd_dec | apply cd_ndec | apply gd_dec | apply gd_ndec | apply ga_split | apply cd_split | apply gd_split) <;> intro hc <;> try (simp -implicitDefEqProofs (maxSteps := 2000000) (disch := first | omega | (simp only [vz_push, vz_set, drop_size]; done) | (simp only [vz_push, vz_set, drop_size]; omega)) only [push_cast, seval, f70N0, f70N1, f70N2, hc, g0, g1, g5])))
      · refine VC_pure (rat_ok hk _ _) ?_
        (try (simp -implicitDefEqProofs (maxSteps := 2000000) (disch := first | omega | (simp only [vz_push, vz_set, drop_size]; done) | (simp only [vz_push, vz_set, drop_size]; omega)) only [push_cast, seval, f70N0, f70N1, f70N2, g0, g1, g5])) <;> (repeat' ((first | apply ga_dec | apply ga_ndec | apply cd_dec | apply cd_ndec | apply gd_dec | apply gd_ndec | apply ga_split | apply cd_split | apply gd_split) <;> intro hc <;> try (simp -implicitDefEqProofs (maxSteps := 2000000) (disch := first | omega | (simp only [vz_push, vz_set, drop_size]; done) | (simp only [vz_push, vz_set, drop_size]; omega)) only [push_cast, seval, f70N0, f70N1, f70N2, hc, g0, g1, g5])))
        · rw [if_pos (by simp only [qN, ofW]; simp; omega)] at hf
          exact out_int (by (repeat first | assumption | exact KeepA.refl _ | apply KeepA.push | refine KeepA.set ?_ (by first | omega | (simp only [vz_push, vz_set, drop_size]; omega) | (have h9 := KeepA.size_le (by assumption); (try simp only [vz_push, vz_set, drop_size] at *); omega)) _ | refine KeepA.drop ?_ (by first | omega | (simp only [vz_push, vz_set, drop_size]; omega) | (have h9 := KeepA.size_le (by assumption); (try simp only [vz_push, vz_set, drop_size] at *); omega)) | refine KeepA.trans ?_ (by assumption))) (by rw [hf])
        · exact fin (by simp only [qN, ofW]; simp; omega)
      · exact fin (by simp only [qN, ofW]; simp; omega)
    · exact fin (by simp only [qN, ofW]; simp; omega)
  · simp -implicitDefEqProofs (maxSteps := 2000000) (disch := first | omega | (simp only [vz_push, vz_set, drop_size]; done) | (simp only [vz_push, vz_set, drop_size]; omega)) only [push_cast, seval, f70N0, f70N1, f70N2, g0]
    rw [show l.length + 1 - i = 0 by omega, findUp] at hf
    exact out_int (by (repeat first | assumption | exact KeepA.refl _ | apply KeepA.push | refine KeepA.set ?_ (by first | omega | (simp only [vz_push, vz_set, drop_size]; omega) | (have h9 := KeepA.size_le (by assumption); (try simp only [vz_push, vz_set, drop_size] at *); omega)) _ | refine KeepA.drop ?_ (by first | omega | (simp only [vz_push, vz_set, drop_size]; omega) | (have h9 := KeepA.size_le (by assumption); (try simp only [vz_push, vz_set, drop_size] at *); omega)) | refine KeepA.trans ?_ (by assumption))) (by rw [hf])
theorem rback_ok (l : List (Int × Int)) (x : Int) (hn : l.length < 1000000) : PC (XK k) 69 [LS l, .c (.int .i64 x)] (.c (.int .i64 (backW l x))) := by
  refine PC_of fun s => ?_
  refine f69_in (hk _) ?_
  have hp := placeI_le l.length x
  have e0 : backW l x = findDn (fun i => decide (i < placeI l.length x) && qB l i) (l.length + 1) := by
    rw [findDn_skip _ _ _ (by omega)]; unfold backW; rfl
  (try (simp -implicitDefEqProofs (maxSteps := 2000000) (disch := first | omega | (simp only [vz_push, vz_set, drop_size]; done) | (simp only [vz_push, vz_set, drop_size]; omega)) only [push_cast, seval, f69N0, f69N1, f69N2])) <;> (repeat' ((first | apply ga_dec | apply ga_ndec | apply cd_dec | apply cd_ndec | apply gd_dec | apply gd_ndec | apply ga_split | apply cd_split | apply gd_split) <;> intro hc <;> try (simp -implicitDefEqProofs (maxSteps := 2000000) (disch := first | omega | (simp only [vz_push, vz_set, drop_size]; done) | (simp only [vz_push, vz_set, drop_size]; omega)) only [push_cast, seval, f69N0, f69N1, f69N2, hc])))
  refine VW_iter (fun m ρ s' => m ≤ l.length + 1 ∧ ρ.get 0 = LS l ∧ ρ.get 1 = .c (.int .i64 x) ∧ ρ.get 5 = .c (.int .i64 ((m : Int) - 1)) ∧ s' = s ∧ backW l x = findDn (fun i => decide (i < placeI l.length x) && qB l i) m) (l.length + 1) ⟨by omega, by (((try simp -implicitDefEqProofs only [eA_tmp, eA_const, AEnv.get_set, ofA_get, List.getD_cons_zero, List.getD_cons_succ, ↓reduceIte, reduceCtorEq, Nat.reduceEqDiff]); try (first | (with_reducible assumption) | (with_reducible rfl) | (congr 2 <;> omega) | rfl))), by (((try simp -implicitDefEqProofs only [eA_tmp, eA_const, AEnv.get_set, ofA_get, List.getD_cons_zero, List.getD_cons_succ, ↓reduceIte, reduceCtorEq, Nat.reduceEqDiff]); try (first | (with_reducible assumption) | (with_reducible rfl) | (congr 2 <;> omega) | rfl))), by (((try simp -implicitDefEqProofs only [eA_tmp, eA_const, AEnv.get_set, ofA_get, List.getD_cons_zero, List.getD_cons_succ, ↓reduceIte, reduceCtorEq, Nat.reduceEqDiff]); try (first | (with_reducible assumption) | (with_reducible rfl) | (congr 2 <;> omega) | rfl))), rfl, e0⟩ ?_
  rintro m ρ s' ⟨hi, g0, g1, g5, rfl, hf⟩
  simp -implicitDefEqProofs (maxSteps := 2000000) (disch := first | omega | (simp only [vz_push, vz_set, drop_size]; done) | (simp only [vz_push, vz_set, drop_size]; omega)) only [push_cast, seval, f69N0, f69N1, f69N2, g0, g1, g5]
  refine cd_dec (fun hc => ?_) (fun hc => ?_)
  · obtain ⟨i, rfl⟩ : ∃ i, m = i + 1 := ⟨m - 1, by omega⟩
    have e : ((i + 1 : Nat) : Int) - 1 = i := by omega
    rw [e] at g5
    rw [findDn] at hf
    have fin : (decide (i < placeI l.length x) && qB l i) = false → ∃ m', m' < i + 1 ∧ m' ≤ l.length + 1 ∧ AV.c (.int .i64 (↑i - 1)) = AV.c (.int .i64 ((m' : Int) - 1)) ∧ backW l x = findDn (fun i => decide (i < placeI l.length x) && qB l i) m' := by
      intro h
      rw [if_neg (by rw [h]; simp)] at hf
      exact ⟨i, by omega, by omega, rfl, hf⟩
    simp -implicitDefEqProofs (maxSteps := 2000000) (disch := first | omega | (simp only [vz_push, vz_set, drop_size]; done) | (simp only [vz_push, vz_set, drop_size]; omega)) only [push_cast, seval, f69N0, f69N1, f69N2, g0, g1, g5]
    refine VC_pure (rplace5_ok hk _ _) ?_
    (try (simp -implicitDefEqProofs (maxSteps := 2000000) (disch := first | omega | (simp only [vz_push, vz_set, drop_size]; done) | (simp only [vz_push, vz_set, drop_size]; omega)) only [push_cast, seval, f69N0, f69N1, f69N2, g0, g1, g5])) <;> (repeat' ((first | apply ga_dec | apply ga_ndec | apply cd_dec | apply cd_ndec | apply gd_dec | apply gd_ndec | apply ga_split | apply cd_split | apply gd_split) <;> intro hc <;> try (simp -implicitDefEqProofs (maxSteps := 2000000) (disch := first | omega | (simp only [vz_push, vz_set, drop_size]; done) | (simp only [vz_push, vz_set, drop_size]; omega)) only [push_cast, seval, f69N0, f69N1, f69N2, hc, g0, g1, g5])))
    · refine VC_pure (rat_ok hk _ _) ?_
      (try (simp -implicitDefEqProofs (maxSteps := 2000000) (disch := first | omega | (simp only [vz_push, vz_set, drop_size]; done) | (simp only [vz_push, vz_set, drop_size]; omega)) only [push_cast, seval, f69N0, f69N1, f69N2, g0, g1, g5])) <;> (repeat' ((first | apply ga_dec | apply ga_ndec | apply cd_dec | apply cd_ndec | apply gd_dec | apply gd_ndec | apply ga_split | apply cd_split | apply gd_split) <;> intro hc <;> try (simp -implicitDefEqProofs (maxSteps := 2000000) (disch := first | omega | (simp only [vz_push, vz_set, drop_size]; done) | (simp only [vz_push, vz_set, drop_size]; omega)) only [push_cast, seval, f69N0, f69N1, f69N2, hc, g0, g1, g5])))
      · refine VC_pure (rat_ok hk _ _) ?_
        (try (simp -implicitDefEqProofs (maxSteps := 2000000) (disch := first | omega | (simp only [vz_push, vz_set, drop_size]; done) | (simp only [vz_push, vz_set, drop_size]; omega)) only [push_cast, seval, f69N0, f69N1, f69N2, g0, g1, g5])) <;> (repeat' ((first | apply ga_dec | apply ga_ndec | apply cd_dec | apply cd_ndec | apply gd_dec | apply gd_ndec | apply ga_split | apply cd_split | apply gd_split) <;> intro hc <;> try (simp -implicitDefEqProofs (maxSteps := 2000000) (disch := first | omega | (simp only [vz_push, vz_set, drop_size]; done) | (simp only [vz_push, vz_set, drop_size]; omega)) only [push_cast, seval, f69N0, f69N1, f69N2, hc, g0, g1, g5])))
        · rw [if_pos (by simp only [qB, ofW]; simp; omega)] at hf
          exact out_int (by (repeat first | assumption | exact KeepA.refl _ | apply KeepA.push | refine KeepA.set ?_ (by first | omega | (simp only [vz_push, vz_set, drop_size]; omega) | (have h9 := KeepA.size_le (by assumption); (try simp only [vz_push, vz_set, drop_size] at *); omega)) _ | refine KeepA.drop ?_ (by first | omega | (simp only [vz_push, vz_set, drop_size]; omega) | (have h9 := KeepA.size_le (by assumption); (try simp only [vz_push, vz_set, drop_size] at *); omega)) | refine KeepA.trans ?_ (by assumption))) (by rw [hf])
        · exact fin (by simp only [qB, ofW]; simp; omega)
      · exact fin (by simp only [qB, ofW]; simp; omega)
    · exact fin (by simp only [qB, ofW]; simp; omega)
  · simp -implicitDefEqProofs (maxSteps := 2000000) (disch := first | omega | (simp only [vz_push, vz_set, drop_size]; done) | (simp only [vz_push, vz_set, drop_size]; omega)) only [push_cast, seval, f69N0, f69N1, f69N2, g0]
    have : m = 0 := by omega
    subst this
    exact out_int (by (repeat first | assumption | exact KeepA.refl _ | apply KeepA.push | refine KeepA.set ?_ (by first | omega | (simp only [vz_push, vz_set, drop_size]; omega) | (have h9 := KeepA.size_le (by assumption); (try simp only [vz_push, vz_set, drop_size] at *); omega)) _ | refine KeepA.drop ?_ (by first | omega | (simp only [vz_push, vz_set, drop_size]; omega) | (have h9 := KeepA.size_le (by assumption); (try simp only [vz_push, vz_set, drop_size] at *); omega)) | refine KeepA.trans ?_ (by assumption))) (by rw [hf]; rfl)
end
end Go.Proofs.YtkmjgpoenljnaaaDoor.Ab
