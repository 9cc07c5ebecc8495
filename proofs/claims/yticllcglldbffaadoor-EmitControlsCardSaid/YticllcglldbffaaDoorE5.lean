import Derived.Test.YticllcglldbffaaDoorE4
import Derived.Test.YticllcglldbffaaDoorG6
namespace Go.Proofs.YticllcglldbffaaDoor.Ab
open Go.Proofs
set_option maxRecDepth 100000
set_option maxHeartbeats 4000000
set_option linter.unusedSimpArgs false
set_option linter.unusedVariables false
set_option linter.unnecessarySimpa false
set_option linter.unusedSectionVars false
theorem wz (c : UInt8) : ∀ l : List UInt8, Lib.indexByte l c = if c ∈ l then ((l.takeWhile (· ≠ c)).length : Int) else -1
  | [] => rfl
  | a :: l => by
    have ih := wz c l
    by_cases h : a = c
    · subst h
      simp [Lib.indexByte, List.takeWhile]
    · have h2 : ¬ c = a := fun e => h e.symm
      simp only [Lib.indexByte, ih, List.mem_cons, h2, false_or]
      have hb : (a == c) = false := by simpa using h
      rw [hb]
      by_cases hm : c ∈ l
      · have hne : ((((l.takeWhile (· ≠ c)).length : Int)) == -1) = false := by
          rw [beq_eq_false_iff_ne]
          omega
        have ht : (a :: l).takeWhile (fun x => decide (x ≠ c)) = a :: l.takeWhile (fun x => decide (x ≠ c)) := by
          rw [List.takeWhile_cons, if_pos (by simpa using h)]
        simp only [if_pos hm, hne, ht, List.length_cons]
        simp
      · simp [hm]
theorem nf {c : UInt8} : ∀ {l : List UInt8}, c ∈ l → (l.takeWhile (· ≠ c)).length < l.length ∧ l.take (l.takeWhile (· ≠ c)).length = l.takeWhile (· ≠ c) ∧ l.drop (l.takeWhile (· ≠ c)).length = l.dropWhile (· ≠ c)
  | [], h => by simp at h
  | a :: l, h => by
    by_cases ha : a = c
    · subst ha
      simp [List.takeWhile, List.dropWhile]
    · have hm : c ∈ l := by
        rcases List.mem_cons.1 h with e | e
        · exact absurd e.symm ha
        · exact e
      obtain ⟨h1, h2, h3⟩ := nf hm
      have ht : (a :: l).takeWhile (fun x => decide (x ≠ c)) = a :: l.takeWhile (fun x => decide (x ≠ c)) := by rw [List.takeWhile_cons, if_pos (by simpa using ha)]
      have hd : (a :: l).dropWhile (fun x => decide (x ≠ c)) = l.dropWhile (fun x => decide (x ≠ c)) := by rw [List.dropWhile_cons, if_pos (by simpa using ha)]
      rw [ht, hd, List.length_cons, List.length_cons, List.take_succ_cons, List.drop_succ_cons, h2, h3]
      exact ⟨by omega, rfl, rfl⟩
theorem V0 {α : Type} (p : α → Bool) : ∀ l : List α, (l.takeWhile p).length ≤ l.length
  | [] => Nat.le_refl _
  | a :: l => by
    have := V0 p l
    rw [List.takeWhile_cons]
    split <;> simp <;> omega
theorem ap0 {α : Type} {p : α → Bool} : ∀ {l : List α} {n : Nat}, n < (l.takeWhile p).length → ∃ c, l[n]? = some c ∧ p c = true
  | [], n, h => by simp at h
  | a :: l, n, h => by
    rw [List.takeWhile_cons] at h
    split at h
    · rename_i ha
      cases n with
      | zero => exact ⟨a, rfl, ha⟩
      | succ n => exact ap0 (l := l) (by simpa using h)
    · simp at h
theorem WX {α : Type} {p : α → Bool} : ∀ {l : List α}, (l.takeWhile p).length < l.length → ∃ c, l[(l.takeWhile p).length]? = some c ∧ p c = false
  | [], h => by simp at h
  | a :: l, h => by
    rw [List.takeWhile_cons] at h ⊢
    split at h
    · rename_i ha
      rw [if_pos ha]
      exact WX (l := l) (by simpa using h)
    · rename_i ha
      rw [if_neg ha]
      exact ⟨a, rfl, by simpa using ha⟩
theorem K6 {a : Nat} (h : a < 8) {p : List UInt8} (hp : p = aZ (a : Int)) : (List.range 8).find? (fun (a : Nat) => decide (p = aZ (a : Int))) = some a := by
  subst hp
  have : a = 0 ∨ a = 1 ∨ a = 2 ∨ a = 3 ∨ a = 4 ∨ a = 5 ∨ a = 6 ∨ a = 7 := by omega
  rcases this with rfl | rfl | rfl | rfl | rfl | rfl | rfl | rfl <;> decide
theorem JK {p : List UInt8} (h : ∀ a : Nat, a < 8 → p ≠ aZ (a : Int)) : (List.range 8).find? (fun (a : Nat) => decide (p = aZ (a : Int))) = none := by
  rw [List.find?_eq_none]
  intro a ha hp
  exact h a (List.mem_range.1 ha) (of_decide_eq_true hp)
def vm : List UInt8 := [48, 49, 50, 51, 52, 53, 54, 55, 56, 57, 59, 63]
theorem XY : ((List.range 256).all fun n => decide (0 ≤ Lib.indexByte vm (UInt8.ofNat n)) == fc (UInt8.ofNat n)) = true := by kernel_rfl
theorem av8 (c : UInt8) : decide (0 ≤ Lib.indexByte vm c) = fc c := by
  have h := List.all_eq_true.1 XY c.toNat (List.mem_range.2 c.toNat_lt)
  rw [UInt8.ofNat_toNat, beq_iff_eq] at h
  exact h
section
variable {k : Nat → List Value → Option Value} (hk : ∀ f, f ≠ 105 → f ≠ 149 → ax k f)
include hk
theorem alA (hix : ∀ (l : List UInt8) (c : UInt8), PC (XK k) 149 [tx l, tx [c]] (.c (.int .i64 (Lib.indexByte l c)))) (s : List UInt8) (c : UInt8) (hs : s.length < 1000000) :
    PC (XK k) 115 [tx s, tx [c]] (.tup [tx (if c ∈ s then s.takeWhile (· ≠ c) else s), tx (if c ∈ s then (s.dropWhile (· ≠ c)).drop 1 else []), .c (.bool (decide (c ∈ s)))]) := by
  have hi := wz c s
  have w := hix s c
  by_cases hm : c ∈ s
  · rw [if_pos hm] at hi
    obtain ⟨h1, h2, h3⟩ := nf hm
    rw [hi] at w
    simp only [if_pos hm]
    rw [decide_eq_true hm, ← h3, ← h2, List.drop_drop]
    rw [h2]
    generalize (s.takeWhile (· ≠ c)).length = n at *
    refine aI fun st => ?_
    refine Ml (hk _ (by decide) (by decide)) ?_
    (try (simp -implicitDefEqProofs (maxSteps := 2000000) (disch := first | omega | (simp only [ac, ae, ab]; first | done | omega)) only [push_cast, seval, kr])) <;> (repeat' ((first | apply ao | apply aj | apply am | apply al | apply an | apply ak | apply ai | apply ag | apply ah) <;> intro hc <;> try (simp -implicitDefEqProofs (maxSteps := 2000000) (disch := first | omega | (simp only [ac, ae, ab]; first | done | omega)) only [push_cast, seval, kr, hc])))
    refine Q2 (hk _ (by decide) (by decide)) ?_
    have ht : List.take (s.length - (n + 1)) (List.drop (n + 1) s) = s.drop (n + 1) := List.take_of_length_le (by rw [List.length_drop]; omega)
    repeat' (first | ((first | apply ao | apply aj | apply am | apply al | apply an | apply ak | apply ai | apply ag | apply ah) <;> intro hc <;> (try (simp -implicitDefEqProofs (maxSteps := 2000000) (disch := first | omega | (simp only [ac, ae, ab]; first | done | omega)) only [push_cast, seval, AF, Cs, kr, hc, ht])) <;> (try (exfalso; omega))) | refine ap (w) ?_ | (simp -implicitDefEqProofs (maxSteps := 2000000) (disch := first | omega | (simp only [ac, ae, ab]; first | done | omega)) only [push_cast, seval, AF, Cs, kr, ht]))
    have h2' : List.takeWhile (fun x => !decide (x = c)) s = List.take n s := by
      rw [h2]
      congr 1
      funext x
      simp
    rw [h2', List.take_length]
    exact ⟨by (repeat first | assumption | exact af.refl _ | apply af.push | refine af.set ?_ (by first | omega | (simp only [ac, ae, ab]; omega) | (have h9 := af.size_le (by assumption); (try simp only [ac, ae, ab] at *); omega)) _ | refine af.drop ?_ (by first | omega | (simp only [ac, ae, ab]; omega) | (have h9 := af.size_le (by assumption); (try simp only [ac, ae, ab] at *); omega)) | refine af.trans ?_ (by assumption)), Se.firm (az.tup (all_cons (az.c _) (all_cons (az.c _) (all_cons (az.c _) all_nil))))⟩
  · rw [if_neg hm] at hi
    rw [hi] at w
    simp only [if_neg hm]
    rw [decide_eq_false hm]
    refine aI fun st => ?_
    refine Ml (hk _ (by decide) (by decide)) ?_
    (try (simp -implicitDefEqProofs (maxSteps := 2000000) (disch := first | omega | (simp only [ac, ae, ab]; first | done | omega)) only [push_cast, seval, kr])) <;> (repeat' ((first | apply ao | apply aj | apply am | apply al | apply an | apply ak | apply ai | apply ag | apply ah) <;> intro hc <;> try (simp -implicitDefEqProofs (maxSteps := 2000000) (disch := first | omega | (simp only [ac, ae, ab]; first | done | omega)) only [push_cast, seval, kr, hc])))
    refine Q2 (hk _ (by decide) (by decide)) ?_
    repeat' (first | ((first | apply ao | apply aj | apply am | apply al | apply an | apply ak | apply ai | apply ag | apply ah) <;> intro hc <;> (try (simp -implicitDefEqProofs (maxSteps := 2000000) (disch := first | omega | (simp only [ac, ae, ab]; first | done | omega)) only [push_cast, seval, AF, Cs, kr, hc])) <;> (try (exfalso; omega))) | refine ap (w) ?_ | (simp -implicitDefEqProofs (maxSteps := 2000000) (disch := first | omega | (simp only [ac, ae, ab]; first | done | omega)) only [push_cast, seval, AF, Cs, kr]))
    exact ⟨by (repeat first | assumption | exact af.refl _ | apply af.push | refine af.set ?_ (by first | omega | (simp only [ac, ae, ab]; omega) | (have h9 := af.size_le (by assumption); (try simp only [ac, ae, ab] at *); omega)) _ | refine af.drop ?_ (by first | omega | (simp only [ac, ae, ab]; omega) | (have h9 := af.size_le (by assumption); (try simp only [ac, ae, ab] at *); omega)) | refine af.trans ?_ (by assumption)), Se.firm (az.tup (all_cons (az.c _) (all_cons (az.c _) (all_cons (az.c _) all_nil))))⟩
def fS (o : Option (Ot × Nat)) : AV := match o with
  | some (o, n) => .tup [.agg (eO o), .c (.int .i64 n)]
  | none => .tup [.agg (eO (0, 0, 0, [])), .c (.int .i64 0)]
omit hk in
theorem dz {X : Prg} {st s' : VS} {x : Option (Ot × Nat)} {o : Ot} {n : Nat} (hkp : af st s') (h : x = some (o, n)) : qW X st (fS x) (.tup [.agg (eO o), .c (.int .i64 (n : Int))]) s' := by
  rw [h]
  exact ⟨hkp, Se.firm (az.tup (all_cons (az.agg (ez _)) (all_cons (az.c _) all_nil)))⟩
omit hk in
theorem eA {X : Prg} {st s' : VS} (hkp : af st s') : qW X st (fS none) (.tup [.agg [.c (.int .i64 0), .c (.int .i64 0), .c (.int .i64 0), .c (.string ⟨#[]⟩)], .c (.int .i64 0)]) s' :=
  ⟨hkp, Se.firm (az.tup (all_cons (az.agg (ez (0, 0, 0, []))) (all_cons (az.c _) all_nil)))⟩
theorem auY (hix : ∀ (l : List UInt8) (c : UInt8), PC (XK k) 149 [tx l, tx [c]] (.c (.int .i64 (Lib.indexByte l c)))) (s : List UInt8) (hs : s.length < 1000000) : PC (XK k) 90 [tx s] (fS (lK s)) := by
  refine aI fun st => ?_
  refine auM (hk _ (by decide) (by decide)) ?_
  (try (simp -implicitDefEqProofs (maxSteps := 2000000) (disch := first | omega | (simp only [ac, ae, ab]; first | done | omega)) only [push_cast, seval, da, cE, c9, dm, cM, cN, cH, db, cO])) <;> (repeat' ((first | apply ao | apply aj | apply am | apply al | apply an | apply ak | apply ai | apply ag | apply ah) <;> intro hc <;> try (simp -implicitDefEqProofs (maxSteps := 2000000) (disch := first | omega | (simp only [ac, ae, ab]; first | done | omega)) only [push_cast, seval, da, cE, c9, dm, cM, cN, cH, db, cO, hc])))
  have hsp : b6 s ≤ s.length ∧ b6 s ≤ 10 := by
    have := V0 fc s
    unfold b6
    omega
  have hst : ∀ n, n < b6 s → ∃ c, s[n]? = some c ∧ fc c = true := fun n hn => ap0 (by unfold b6 at hn; omega)
  have hst2 : b6 s < s.length → b6 s < 10 → ∃ c, s[b6 s]? = some c ∧ fc c = false := fun h1 h2 => by
    have e : b6 s = (s.takeWhile fc).length := by unfold b6 at h2 ⊢; omega
    rw [e] at h1 ⊢
    exact WX h1
  refine aM (fun m ρ s' => ∃ n : Nat, m = b6 s - n ∧ n ≤ b6 s ∧ ρ.get 0 = tx s ∧ ρ.get 2 = .ptr ⟨st.size, 0, none⟩ ∧ ρ.get 4 = .c (.int .i64 n) ∧ (s'.get st.size = some (.own ⟨[.c (.int .i64 0), .c (.int .i64 0), .c (.int .i64 0), .c (.string ⟨#[]⟩)], 44, 0, 0, false⟩)) ∧ (af st s')) (b6 s) ⟨0, rfl, Nat.zero_le _, by (((try simp -implicitDefEqProofs only [aw, aq, au.get_set, ar, List.getD_cons_zero, List.getD_cons_succ, ↓reduceIte, reduceCtorEq, Nat.reduceEqDiff]); try (first | (with_reducible assumption) | (with_reducible rfl) | (congr 2 <;> omega) | rfl))), by (((try simp -implicitDefEqProofs only [aw, aq, au.get_set, ar, List.getD_cons_zero, List.getD_cons_succ, ↓reduceIte, reduceCtorEq, Nat.reduceEqDiff]); try (first | (with_reducible assumption) | (with_reducible rfl) | (congr 2 <;> omega) | rfl))), by (((try simp -implicitDefEqProofs only [aw, aq, au.get_set, ar, List.getD_cons_zero, List.getD_cons_succ, ↓reduceIte, reduceCtorEq, Nat.reduceEqDiff]); try (first | (with_reducible assumption) | (with_reducible rfl) | (congr 2 <;> omega) | rfl))), (by (simp -implicitDefEqProofs (disch := first | omega | (simp only [ac, ae, ab]; first | done | omega)) only [eu, dN, bB, bZ, ef])), by (repeat first | assumption | exact af.refl _ | apply af.push | refine af.set ?_ (by first | omega | (simp only [ac, ae, ab]; omega) | (have h9 := af.size_le (by assumption); (try simp only [ac, ae, ab] at *); omega)) _ | refine af.drop ?_ (by first | omega | (simp only [ac, ae, ab]; omega) | (have h9 := af.size_le (by assumption); (try simp only [ac, ae, ab] at *); omega)) | refine af.trans ?_ (by assumption))⟩ ?_
  rintro m ρ s' ⟨n, rfl, hn, g0, g2, g4, j1, j2⟩
  have z := VS.lt_of_get j1
  have hpc : (tx [48, 49, 50, 51, 52, 53, 54, 55, 56, 57, 59, 63] : AV) = tx vm := rfl
  by_cases c1 : n < b6 s
  · obtain ⟨c, hc1, hc2⟩ := hst n c1
    have hp := av8 c
    rw [hc2] at hp
    repeat' (first | ((first | apply ao | apply aj | apply am | apply al | apply an | apply ak | apply ai | apply ag | apply ah) <;> intro hc <;> (try (simp -implicitDefEqProofs (maxSteps := 2000000) (disch := first | omega | (simp only [ac, ae, ab]; first | done | omega)) only [push_cast, seval, da, cE, c9, dm, cM, cN, cH, db, cO, hc, g0, g2, g4, hc1, hp])) <;> (try (exfalso; omega))) | refine ap (ju hk vm c) ?_ | (simp -implicitDefEqProofs (maxSteps := 2000000) (disch := first | omega | (simp only [ac, ae, ab]; first | done | omega)) only [push_cast, seval, da, cE, c9, dm, cM, cN, cH, db, cO, g0, g2, g4, hc1, hp]))
    exact ⟨_ - (n + 1), by omega, n + 1, rfl, by omega, congrArg (fun z => AV.c (.int .i64 z)) (by omega), j1, j2⟩
  · have hn2 : n = b6 s := by omega
    subst hn2
    by_cases c2 : b6 s < s.length
    · by_cases c3 : b6 s < 10
      · obtain ⟨c, hc1, hc2⟩ := hst2 c2 c3
        have hp := av8 c
        rw [hc2] at hp
        obtain ⟨p, hpe⟩ : ∃ p, p = s.take (b6 s + 1) := ⟨_, rfl⟩
        have hps : p = s.take (b6 s) ++ [c] := by rw [hpe, aV hc1]
        have hsq : lK s = (eW p).map fun o => (o, b6 s + 1) := by
          unfold lK
          rw [if_neg (by omega), ← hpe]
        rw [hsq]
        have hd := gF hc1
        generalize b6 s = n at *
        have htk : List.take (n + 1) s = p := hpe.symm
        have hn1 : (n : Int) + 1 = ((n + 1 : Nat) : Int) := by omega
        repeat' (first | ((first | apply ao | apply aj | apply am | apply al | apply an | apply ak | apply ai | apply ag | apply ah) <;> intro hc <;> (try (simp -implicitDefEqProofs (maxSteps := 2000000) (disch := first | omega | (simp only [ac, ae, ab]; first | done | omega)) only [push_cast, seval, da, cE, c9, dm, cM, cN, cH, db, cO, hc, g0, g2, g4, hc1, hp, htk, j1, z])) <;> (try (exfalso; omega))) | refine ap (ju hk vm c) ?_ | refine ap (wY hk 4) ?_ | (simp -implicitDefEqProofs (maxSteps := 2000000) (disch := first | omega | (simp only [ac, ae, ab]; first | done | omega)) only [push_cast, seval, da, cE, c9, dm, cM, cN, cH, db, cO, g0, g2, g4, hc1, hp, htk, j1, z]))
        · have hpp : p = [50, 74] := by simpa using hc
          rw [hn1]
          exact dz (o := (2, 0, 0, [])) (by (repeat first | assumption | exact af.refl _ | apply af.push | refine af.set ?_ (by first | omega | (simp only [ac, ae, ab]; omega) | (have h9 := af.size_le (by assumption); (try simp only [ac, ae, ab] at *); omega)) _ | refine af.drop ?_ (by first | omega | (simp only [ac, ae, ab]; omega) | (have h9 := af.size_le (by assumption); (try simp only [ac, ae, ab] at *); omega)) | refine af.trans ?_ (by assumption))) (by rw [hpp]; rfl)
        · have hpp : p = [75] := by simpa using hc
          rw [hn1]
          exact dz (o := (3, 0, 0, [])) (by (repeat first | assumption | exact af.refl _ | apply af.push | refine af.set ?_ (by first | omega | (simp only [ac, ae, ab]; omega) | (have h9 := af.size_le (by assumption); (try simp only [ac, ae, ab] at *); omega)) _ | refine af.drop ?_ (by first | omega | (simp only [ac, ae, ab]; omega) | (have h9 := af.size_le (by assumption); (try simp only [ac, ae, ab] at *); omega)) | refine af.trans ?_ (by assumption))) (by rw [hpp]; rfl)
        · have hpp : p = [63, 50, 48, 48, 52, 104] := by simpa using hc
          rw [hn1]
          exact dz (o := (5, 1, 0, [])) (by (repeat first | assumption | exact af.refl _ | apply af.push | refine af.set ?_ (by first | omega | (simp only [ac, ae, ab]; omega) | (have h9 := af.size_le (by assumption); (try simp only [ac, ae, ab] at *); omega)) _ | refine af.drop ?_ (by first | omega | (simp only [ac, ae, ab]; omega) | (have h9 := af.size_le (by assumption); (try simp only [ac, ae, ab] at *); omega)) | refine af.trans ?_ (by assumption))) (by rw [hpp]; rfl)
        · have hpp : p = [63, 50, 48, 48, 52, 108] := by simpa using hc
          rw [hn1]
          exact dz (o := (5, 0, 0, [])) (by (repeat first | assumption | exact af.refl _ | apply af.push | refine af.set ?_ (by first | omega | (simp only [ac, ae, ab]; omega) | (have h9 := af.size_le (by assumption); (try simp only [ac, ae, ab] at *); omega)) _ | refine af.drop ?_ (by first | omega | (simp only [ac, ae, ab]; omega) | (have h9 := af.size_le (by assumption); (try simp only [ac, ae, ab] at *); omega)) | refine af.trans ?_ (by assumption))) (by rw [hpp]; rfl)
        · rename_i hc1' hc2' hc3'
          have n1 : p ≠ [50, 74] := by simpa using hc1'
          have n2 : p ≠ [75] := by simpa using hc2'
          have n3 : p ≠ [63, 50, 48, 48, 52, 104] := by simpa using hc3'
          have n4 : p ≠ [63, 50, 48, 48, 52, 108] := by simpa using hc
          have hex1 : ∀ a : Nat, a < 8 → p = aZ (a : Int) → eW p = some (4, (a : Int), 0, []) := fun a ha he => by
            unfold eW
            rw [if_neg n1, if_neg n2, if_neg n3, if_neg n4, K6 ha he]
          have hex2 : (∀ a : Nat, a < 8 → p ≠ aZ (a : Int)) → eW p = jL p := fun he => by
            unfold eW
            rw [if_neg n1, if_neg n2, if_neg n3, if_neg n4, JK he]
          clear hc1' hc2' hc3'
          obtain ⟨s2, hs2⟩ : ∃ s2, s2 = s' := ⟨_, rfl⟩
          rw [← hs2] at j1 j2 z ⊢
          have m1 := j1
          have m2 := j2
          clear j1 j2
          refine aM (fun m ρ s' => ∃ a : Nat, m = 8 - a ∧ a ≤ 8 ∧ ρ.get 0 = tx s ∧ ρ.get 2 = .ptr ⟨st.size, 0, none⟩ ∧ ρ.get 4 = .c (.int .i64 ((n : Int) + 1)) ∧ ρ.get 5 = tx (s.take n) ∧ ρ.get 6 = .c (.int .u8 c.toNat) ∧ ρ.get 8 = .c (.int .i64 7) ∧ ρ.get 9 = .c (.int .i64 a) ∧ (∀ b : Nat, b < a → p ≠ aZ (b : Int)) ∧ (s' = s2)) (8) ⟨0, rfl, Nat.zero_le _, by (((try simp -implicitDefEqProofs only [aw, aq, au.get_set, ar, List.getD_cons_zero, List.getD_cons_succ, ↓reduceIte, reduceCtorEq, Nat.reduceEqDiff]); try (first | (with_reducible assumption) | (with_reducible rfl) | (congr 2 <;> omega) | rfl))), by (((try simp -implicitDefEqProofs only [aw, aq, au.get_set, ar, List.getD_cons_zero, List.getD_cons_succ, ↓reduceIte, reduceCtorEq, Nat.reduceEqDiff]); try (first | (with_reducible assumption) | (with_reducible rfl) | (congr 2 <;> omega) | rfl))), by (((try simp -implicitDefEqProofs only [aw, aq, au.get_set, ar, List.getD_cons_zero, List.getD_cons_succ, ↓reduceIte, reduceCtorEq, Nat.reduceEqDiff]); try (first | (with_reducible assumption) | (with_reducible rfl) | (congr 2 <;> omega) | rfl))), by (((try simp -implicitDefEqProofs only [aw, aq, au.get_set, ar, List.getD_cons_zero, List.getD_cons_succ, ↓reduceIte, reduceCtorEq, Nat.reduceEqDiff]); try (first | (with_reducible assumption) | (with_reducible rfl) | (congr 2 <;> omega) | rfl))), by (((try simp -implicitDefEqProofs only [aw, aq, au.get_set, ar, List.getD_cons_zero, List.getD_cons_succ, ↓reduceIte, reduceCtorEq, Nat.reduceEqDiff]); try (first | (with_reducible assumption) | (with_reducible rfl) | (congr 2 <;> omega) | rfl))), by (((try simp -implicitDefEqProofs only [aw, aq, au.get_set, ar, List.getD_cons_zero, List.getD_cons_succ, ↓reduceIte, reduceCtorEq, Nat.reduceEqDiff]); try (first | (with_reducible assumption) | (with_reducible rfl) | (congr 2 <;> omega) | rfl))), by (((try simp -implicitDefEqProofs only [aw, aq, au.get_set, ar, List.getD_cons_zero, List.getD_cons_succ, ↓reduceIte, reduceCtorEq, Nat.reduceEqDiff]); try (first | (with_reducible assumption) | (with_reducible rfl) | (congr 2 <;> omega) | rfl))), (fun b hb => absurd hb (Nat.not_lt_zero b)), rfl⟩ ?_
          rintro m ρ s' ⟨a, rfl, ha, g0, g2, g4, g5, g6, g8, g9, j1, j2⟩
          subst j2
          clear hc
          by_cases c4 : a < 8
          · have lk := xp hk a (by omega) (by omega)
            repeat' (first | ((first | apply ao | apply aj | apply am | apply al | apply an | apply ak | apply ai | apply ag | apply ah) <;> intro hc <;> (try (simp -implicitDefEqProofs (maxSteps := 2000000) (disch := first | omega | (simp only [ac, ae, ab]; first | done | omega)) only [push_cast, seval, da, cE, c9, dm, cM, cN, cH, db, cO, hc, g0, g2, g4, g5, g6, g8, g9, htk, m1, z])) <;> (try (exfalso; omega))) | refine ap (lk) ?_ | (simp -implicitDefEqProofs (maxSteps := 2000000) (disch := first | omega | (simp only [ac, ae, ab]; first | done | omega)) only [push_cast, seval, da, cE, c9, dm, cM, cN, cH, db, cO, g0, g2, g4, g5, g6, g8, g9, htk, m1, z]))
            · have hpp : p = aZ (a : Int) := by simpa using hc
              rw [hn1]
              exact dz (o := (4, (a : Int), 0, [])) (by (repeat first | assumption | exact af.refl _ | apply af.push | refine af.set ?_ (by first | omega | (simp only [ac, ae, ab]; omega) | (have h9 := af.size_le (by assumption); (try simp only [ac, ae, ab] at *); omega)) _ | refine af.drop ?_ (by first | omega | (simp only [ac, ae, ab]; omega) | (have h9 := af.size_le (by assumption); (try simp only [ac, ae, ab] at *); omega)) | refine af.trans ?_ (by assumption))) (by rw [hex1 a c4 hpp]; rfl)
            · have hpp : p ≠ aZ (a : Int) := by simpa using hc
              refine ⟨_ - (a + 1), by omega, a + 1, rfl, by omega, congrArg (fun z => AV.c (.int .i64 z)) (by omega), fun b hb => ?_⟩
              by_cases hba : b = a
              · rw [hba]; exact hpp
              · exact j1 b (by omega)
          · have ha : a = 8 := by omega
            subst ha
            rw [hex2 j1, hps]
            have hq10 : (s.take n).length < 1000000 := by rw [List.length_take]; omega
            generalize s.take n = q at *
            have cut := alA hk hix q 59 hq10
            by_cases q1 : c = 72
            · have cc : ((c.toNat : Int) = 72) = True := eq_true (by rw [q1]; rfl)
              by_cases q2 : 59 ∈ q
              · simp only [if_pos q2] at cut
                rw [decide_eq_true q2] at cut
                have hmv : jL (q ++ [c]) = match eU (q.takeWhile (· ≠ 59)), eU ((q.dropWhile (· ≠ 59)).drop 1) with
                    | some n, some m => if aW (1, n, m, []) then some (1, n, m, []) else none
                    | _, _ => none := by
                  unfold jL
                  rw [if_neg (by rw [(gN q c).1, q1]; simp), (gN q c).2, if_neg (by simpa using q2)]
                  rfl
                have l1 : (q.takeWhile (· ≠ 59)).length < 1000000 := by have := V0 (fun c : UInt8 => decide (c ≠ 59)) q; omega
                have l2 : ((q.dropWhile (· ≠ 59)).drop 1).length < 1000000 := by
                  have := (nf q2).2.2
                  rw [← this, List.length_drop, List.length_drop]
                  omega
                generalize q.takeWhile (· ≠ 59) = row at *
                generalize (q.dropWhile (· ≠ 59)).drop 1 = col at *
                have u1 := IB hk row l1
                have u2 := IB hk col l2
                rw [hmv]
                cases hN : eU row with
                | none =>
                  rw [hN] at u1
                  cases hM : eU col with
                  | none =>
                    rw [hM] at u2
                    repeat' (first | ((first | apply ao | apply aj | apply am | apply al | apply an | apply ak | apply ai | apply ag | apply ah) <;> intro hc <;> (try (simp -implicitDefEqProofs (maxSteps := 2000000) (disch := first | omega | (simp only [ac, ae, ab]; first | done | omega)) only [push_cast, seval, da, cE, c9, dm, cM, cN, cH, db, cO, hc, g0, g2, g4, g5, g6, g8, g9, htk, m1, z, cc, hO])) <;> (try (exfalso; omega))) | refine ap (cut) ?_ | refine ap (u1) ?_ | refine ap (u2) ?_ | (simp -implicitDefEqProofs (maxSteps := 2000000) (disch := first | omega | (simp only [ac, ae, ab]; first | done | omega)) only [push_cast, seval, da, cE, c9, dm, cM, cN, cH, db, cO, g0, g2, g4, g5, g6, g8, g9, htk, m1, z, cc, hO]))
                    exact eA (by (repeat first | assumption | exact af.refl _ | apply af.push | refine af.set ?_ (by first | omega | (simp only [ac, ae, ab]; omega) | (have h9 := af.size_le (by assumption); (try simp only [ac, ae, ab] at *); omega)) _ | refine af.drop ?_ (by first | omega | (simp only [ac, ae, ab]; omega) | (have h9 := af.size_le (by assumption); (try simp only [ac, ae, ab] at *); omega)) | refine af.trans ?_ (by assumption)))
                  | some M =>
                    rw [hM] at u2
                    repeat' (first | ((first | apply ao | apply aj | apply am | apply al | apply an | apply ak | apply ai | apply ag | apply ah) <;> intro hc <;> (try (simp -implicitDefEqProofs (maxSteps := 2000000) (disch := first | omega | (simp only [ac, ae, ab]; first | done | omega)) only [push_cast, seval, da, cE, c9, dm, cM, cN, cH, db, cO, hc, g0, g2, g4, g5, g6, g8, g9, htk, m1, z, cc, hO])) <;> (try (exfalso; omega))) | refine ap (cut) ?_ | refine ap (u1) ?_ | refine ap (u2) ?_ | (simp -implicitDefEqProofs (maxSteps := 2000000) (disch := first | omega | (simp only [ac, ae, ab]; first | done | omega)) only [push_cast, seval, da, cE, c9, dm, cM, cN, cH, db, cO, g0, g2, g4, g5, g6, g8, g9, htk, m1, z, cc, hO]))
                    exact eA (by (repeat first | assumption | exact af.refl _ | apply af.push | refine af.set ?_ (by first | omega | (simp only [ac, ae, ab]; omega) | (have h9 := af.size_le (by assumption); (try simp only [ac, ae, ab] at *); omega)) _ | refine af.drop ?_ (by first | omega | (simp only [ac, ae, ab]; omega) | (have h9 := af.size_le (by assumption); (try simp only [ac, ae, ab] at *); omega)) | refine af.trans ?_ (by assumption)))
                | some N =>
                  rw [hN] at u1
                  cases hM : eU col with
                  | none =>
                    rw [hM] at u2
                    repeat' (first | ((first | apply ao | apply aj | apply am | apply al | apply an | apply ak | apply ai | apply ag | apply ah) <;> intro hc <;> (try (simp -implicitDefEqProofs (maxSteps := 2000000) (disch := first | omega | (simp only [ac, ae, ab]; first | done | omega)) only [push_cast, seval, da, cE, c9, dm, cM, cN, cH, db, cO, hc, g0, g2, g4, g5, g6, g8, g9, htk, m1, z, cc, hO])) <;> (try (exfalso; omega))) | refine ap (cut) ?_ | refine ap (u1) ?_ | refine ap (u2) ?_ | (simp -implicitDefEqProofs (maxSteps := 2000000) (disch := first | omega | (simp only [ac, ae, ab]; first | done | omega)) only [push_cast, seval, da, cE, c9, dm, cM, cN, cH, db, cO, g0, g2, g4, g5, g6, g8, g9, htk, m1, z, cc, hO]))
                    exact eA (by (repeat first | assumption | exact af.refl _ | apply af.push | refine af.set ?_ (by first | omega | (simp only [ac, ae, ab]; omega) | (have h9 := af.size_le (by assumption); (try simp only [ac, ae, ab] at *); omega)) _ | refine af.drop ?_ (by first | omega | (simp only [ac, ae, ab]; omega) | (have h9 := af.size_le (by assumption); (try simp only [ac, ae, ab] at *); omega)) | refine af.trans ?_ (by assumption)))
                  | some M =>
                    rw [hM] at u2
                    have w := ug hk (1, N, M, []) (show ([] : List UInt8).length < 1000000 by decide)
                    have e0 : eO (1, N, M, []) = [AV.c (.int .i64 1), .c (.int .i64 N), .c (.int .i64 M), .c (.string ⟨#[]⟩)] := rfl
                    rw [e0] at w
                    cases hmo : aW (1, N, M, []) with
                    | true =>
                      rw [hmo] at w
                      repeat' (first | ((first | apply ao | apply aj | apply am | apply al | apply an | apply ak | apply ai | apply ag | apply ah) <;> intro hc <;> (try (simp -implicitDefEqProofs (maxSteps := 2000000) (disch := first | omega | (simp only [ac, ae, ab]; first | done | omega)) only [push_cast, seval, da, cE, c9, dm, cM, cN, cH, db, cO, hc, g0, g2, g4, g5, g6, g8, g9, htk, m1, z, cc, hO])) <;> (try (exfalso; omega))) | refine ap (cut) ?_ | refine ap (u1) ?_ | refine ap (u2) ?_ | refine ap (w) ?_ | (simp -implicitDefEqProofs (maxSteps := 2000000) (disch := first | omega | (simp only [ac, ae, ab]; first | done | omega)) only [push_cast, seval, da, cE, c9, dm, cM, cN, cH, db, cO, g0, g2, g4, g5, g6, g8, g9, htk, m1, z, cc, hO]))
                      rw [hn1]
                      refine dz (o := (1, N, M, [])) (by (repeat first | assumption | exact af.refl _ | apply af.push | refine af.set ?_ (by first | omega | (simp only [ac, ae, ab]; omega) | (have h9 := af.size_le (by assumption); (try simp only [ac, ae, ab] at *); omega)) _ | refine af.drop ?_ (by first | omega | (simp only [ac, ae, ab]; omega) | (have h9 := af.size_le (by assumption); (try simp only [ac, ae, ab] at *); omega)) | refine af.trans ?_ (by assumption))) ?_
                      simp [hmo]
                    | false =>
                      rw [hmo] at w
                      repeat' (first | ((first | apply ao | apply aj | apply am | apply al | apply an | apply ak | apply ai | apply ag | apply ah) <;> intro hc <;> (try (simp -implicitDefEqProofs (maxSteps := 2000000) (disch := first | omega | (simp only [ac, ae, ab]; first | done | omega)) only [push_cast, seval, da, cE, c9, dm, cM, cN, cH, db, cO, hc, g0, g2, g4, g5, g6, g8, g9, htk, m1, z, cc, hO])) <;> (try (exfalso; omega))) | refine ap (cut) ?_ | refine ap (u1) ?_ | refine ap (u2) ?_ | refine ap (w) ?_ | (simp -implicitDefEqProofs (maxSteps := 2000000) (disch := first | omega | (simp only [ac, ae, ab]; first | done | omega)) only [push_cast, seval, da, cE, c9, dm, cM, cN, cH, db, cO, g0, g2, g4, g5, g6, g8, g9, htk, m1, z, cc, hO]))
                      have : (if false = true then some ((1, N, M, []) : Ot) else none) = none := rfl
                      simp only [hmo]
                      exact eA (by (repeat first | assumption | exact af.refl _ | apply af.push | refine af.set ?_ (by first | omega | (simp only [ac, ae, ab]; omega) | (have h9 := af.size_le (by assumption); (try simp only [ac, ae, ab] at *); omega)) _ | refine af.drop ?_ (by first | omega | (simp only [ac, ae, ab]; omega) | (have h9 := af.size_le (by assumption); (try simp only [ac, ae, ab] at *); omega)) | refine af.trans ?_ (by assumption)))
              · rw [decide_eq_false q2] at cut
                have hmv : jL (q ++ [c]) = none := by
                  unfold jL
                  rw [if_neg (by rw [(gN q c).1, q1]; simp), (gN q c).2, if_pos q2]
                rw [hmv]
                repeat' (first | ((first | apply ao | apply aj | apply am | apply al | apply an | apply ak | apply ai | apply ag | apply ah) <;> intro hc <;> (try (simp -implicitDefEqProofs (maxSteps := 2000000) (disch := first | omega | (simp only [ac, ae, ab]; first | done | omega)) only [push_cast, seval, da, cE, c9, dm, cM, cN, cH, db, cO, hc, g0, g2, g4, g5, g6, g8, g9, htk, m1, z, cc])) <;> (try (exfalso; omega))) | refine ap (cut) ?_ | (simp -implicitDefEqProofs (maxSteps := 2000000) (disch := first | omega | (simp only [ac, ae, ab]; first | done | omega)) only [push_cast, seval, da, cE, c9, dm, cM, cN, cH, db, cO, g0, g2, g4, g5, g6, g8, g9, htk, m1, z, cc]))
                exact eA (by (repeat first | assumption | exact af.refl _ | apply af.push | refine af.set ?_ (by first | omega | (simp only [ac, ae, ab]; omega) | (have h9 := af.size_le (by assumption); (try simp only [ac, ae, ab] at *); omega)) _ | refine af.drop ?_ (by first | omega | (simp only [ac, ae, ab]; omega) | (have h9 := af.size_le (by assumption); (try simp only [ac, ae, ab] at *); omega)) | refine af.trans ?_ (by assumption)))
            · have cc : ((c.toNat : Int) = 72) = False := eq_false (fun e => q1 (by
                rw [← UInt8.ofNat_toNat (x := c), show c.toNat = 72 by omega]; rfl))
              have hmv : jL (q ++ [c]) = none := by
                unfold jL
                rw [if_pos (by rw [(gN q c).1]; simpa using q1)]
              rw [hmv]
              repeat' (first | ((first | apply ao | apply aj | apply am | apply al | apply an | apply ak | apply ai | apply ag | apply ah) <;> intro hc <;> (try (simp -implicitDefEqProofs (maxSteps := 2000000) (disch := first | omega | (simp only [ac, ae, ab]; first | done | omega)) only [push_cast, seval, da, cE, c9, dm, cM, cN, cH, db, cO, hc, g0, g2, g4, g5, g6, g8, g9, htk, m1, z, cc])) <;> (try (exfalso; omega))) | refine ap (cut) ?_ | (simp -implicitDefEqProofs (maxSteps := 2000000) (disch := first | omega | (simp only [ac, ae, ab]; first | done | omega)) only [push_cast, seval, da, cE, c9, dm, cM, cN, cH, db, cO, g0, g2, g4, g5, g6, g8, g9, htk, m1, z, cc]))
              exact eA (by (repeat first | assumption | exact af.refl _ | apply af.push | refine af.set ?_ (by first | omega | (simp only [ac, ae, ab]; omega) | (have h9 := af.size_le (by assumption); (try simp only [ac, ae, ab] at *); omega)) _ | refine af.drop ?_ (by first | omega | (simp only [ac, ae, ab]; omega) | (have h9 := af.size_le (by assumption); (try simp only [ac, ae, ab] at *); omega)) | refine af.trans ?_ (by assumption)))
      · have hsq : lK s = none := by
          unfold lK
          rw [if_pos (by omega)]
        rw [hsq]
        repeat' (first | ((first | apply ao | apply aj | apply am | apply al | apply an | apply ak | apply ai | apply ag | apply ah) <;> intro hc <;> (try (simp -implicitDefEqProofs (maxSteps := 2000000) (disch := first | omega | (simp only [ac, ae, ab]; first | done | omega)) only [push_cast, seval, da, cE, c9, dm, cM, cN, cH, db, cO, hc, g0, g2, g4, j1, z])) <;> (try (exfalso; omega))) | (simp -implicitDefEqProofs (maxSteps := 2000000) (disch := first | omega | (simp only [ac, ae, ab]; first | done | omega)) only [push_cast, seval, da, cE, c9, dm, cM, cN, cH, db, cO, g0, g2, g4, j1, z]))
        exact eA (by (repeat first | assumption | exact af.refl _ | apply af.push | refine af.set ?_ (by first | omega | (simp only [ac, ae, ab]; omega) | (have h9 := af.size_le (by assumption); (try simp only [ac, ae, ab] at *); omega)) _ | refine af.drop ?_ (by first | omega | (simp only [ac, ae, ab]; omega) | (have h9 := af.size_le (by assumption); (try simp only [ac, ae, ab] at *); omega)) | refine af.trans ?_ (by assumption)))
    · have hsq : lK s = none := by
        unfold lK
        rw [if_pos (by omega)]
      rw [hsq]
      repeat' (first | ((first | apply ao | apply aj | apply am | apply al | apply an | apply ak | apply ai | apply ag | apply ah) <;> intro hc <;> (try (simp -implicitDefEqProofs (maxSteps := 2000000) (disch := first | omega | (simp only [ac, ae, ab]; first | done | omega)) only [push_cast, seval, da, cE, c9, dm, cM, cN, cH, db, cO, hc, g0, g2, g4, j1, z])) <;> (try (exfalso; omega))) | (simp -implicitDefEqProofs (maxSteps := 2000000) (disch := first | omega | (simp only [ac, ae, ab]; first | done | omega)) only [push_cast, seval, da, cE, c9, dm, cM, cN, cH, db, cO, g0, g2, g4, j1, z]))
      exact eA (by (repeat first | assumption | exact af.refl _ | apply af.push | refine af.set ?_ (by first | omega | (simp only [ac, ae, ab]; omega) | (have h9 := af.size_le (by assumption); (try simp only [ac, ae, ab] at *); omega)) _ | refine af.drop ?_ (by first | omega | (simp only [ac, ae, ab]; omega) | (have h9 := af.size_le (by assumption); (try simp only [ac, ae, ab] at *); omega)) | refine af.trans ?_ (by assumption)))
end
end Go.Proofs.YticllcglldbffaaDoor.Ab
