import Derived.Test.YticllcglldbffaaDoorE5
import Derived.Test.YticllcglldbffaaDoorG1
namespace Go.Proofs.YticllcglldbffaaDoor.Ab
open Go.Proofs
set_option maxRecDepth 100000
set_option maxHeartbeats 4000000
set_option linter.unusedSimpArgs false
set_option linter.unusedVariables false
set_option linter.unnecessarySimpa false
set_option linter.unusedSectionVars false
def dZ (o : Option (List Ot)) : AV := match o with
  | some l => .tup [LO l, .c (.int .i64 0)]
  | none => .tup [LO [], .c (.int .i64 6)]
section
variable {k : Nat → List Value → Option Value} (hk : ∀ f, f ≠ 105 → f ≠ 149 → ax k f)
include hk
theorem KI (s : List UInt8) : PC (XK k) 58 [tx s] (.fn 89 [] [.fptr [tx s] 0]) := by
  refine aI fun st => ?_
  refine atC (hk _ (by decide) (by decide)) ?_
  (try (simp -implicitDefEqProofs (maxSteps := 2000000) (disch := first | omega | (simp only [ac, ae, ab]; first | done | omega)) only [push_cast, seval, aqI])) <;> (repeat' ((first | apply ao | apply aj | apply am | apply al | apply an | apply ak | apply ai | apply ag | apply ah) <;> intro hc <;> try (simp -implicitDefEqProofs (maxSteps := 2000000) (disch := first | omega | (simp only [ac, ae, ab]; first | done | omega)) only [push_cast, seval, aqI, hc])))
  refine ⟨by (repeat first | assumption | exact af.refl _ | apply af.push | refine af.set ?_ (by first | omega | (simp only [ac, ae, ab]; omega) | (have h9 := af.size_le (by assumption); (try simp only [ac, ae, ab] at *); omega)) _ | refine af.drop ?_ (by first | omega | (simp only [ac, ae, ab]; omega) | (have h9 := af.size_le (by assumption); (try simp only [ac, ae, ab] at *); omega)) | refine af.trans ?_ (by assumption)), Se.fn Ses.nil (Ses.cons (Se.box (b := st.size) (e := 9) (by (simp -implicitDefEqProofs (disch := first | omega | (simp only [ac, ae, ab]; first | done | omega)) only [eu, dN, bB, bZ, ef])) (by omega) (Se.c _)) Ses.nil)⟩
theorem ai4 (hix : ∀ (l : List UInt8) (c : UInt8), PC (XK k) 149 [tx l, tx [c]] (.c (.int .i64 (Lib.indexByte l c)))) (s : List UInt8) (hs : s.length < 1000000) (n : Nat) (hn : n < s.length) : PC (XK k) 89 [.c (.int .i64 n), .fptr [tx s] 0] (fS (dU (s.drop n))) := by
  refine aI fun st => ?_
  refine atR (hk _ (by decide) (by decide)) ?_
  obtain ⟨c, hc0⟩ : ∃ c, s[n]? = some c := ⟨_, List.getElem?_eq_getElem hn⟩
  have hd := gF hc0
  have htk2 : List.take s.length s = s := List.take_length
  have htk : List.take (s.length - n) (List.drop n s) = s.drop n := List.take_of_length_le (by rw [List.length_drop]; omega)
  have hlen : (s.drop n).length = s.length - n := List.length_drop
  have nat : ∀ d : Nat, d < 256 → ((c.toNat : Int) = d) → c = UInt8.ofNat d := fun d hd e => by
    rw [← UInt8.ofNat_toNat (x := c), show c.toNat = d by omega]
  by_cases k7 : c = 7
  · subst k7
    rw [hd]
    repeat' (first | ((first | apply ao | apply aj | apply am | apply al | apply an | apply ak | apply ai | apply ag | apply ah) <;> intro hc <;> (try (simp -implicitDefEqProofs (maxSteps := 2000000) (disch := first | omega | (simp only [ac, ae, ab]; first | done | omega)) only [push_cast, seval, im, io, ii, ir, iu, hc, hc0])) <;> (try (exfalso; omega))) | (simp -implicitDefEqProofs (maxSteps := 2000000) (disch := first | omega | (simp only [ac, ae, ab]; first | done | omega)) only [push_cast, seval, im, io, ii, ir, iu, hc0]))
    exact dz (o := (6, 0, 0, [])) (n := 1) (by (repeat first | assumption | exact af.refl _ | apply af.push | refine af.set ?_ (by first | omega | (simp only [ac, ae, ab]; omega) | (have h9 := af.size_le (by assumption); (try simp only [ac, ae, ab] at *); omega)) _ | refine af.drop ?_ (by first | omega | (simp only [ac, ae, ab]; omega) | (have h9 := af.size_le (by assumption); (try simp only [ac, ae, ab] at *); omega)) | refine af.trans ?_ (by assumption))) rfl
  · have n7 : ((c.toNat : Int) = 7) = False := eq_false fun e => k7 (nat 7 (by omega) e)
    by_cases k13 : c = 13
    · subst k13
      rw [hd]
      repeat' (first | ((first | apply ao | apply aj | apply am | apply al | apply an | apply ak | apply ai | apply ag | apply ah) <;> intro hc <;> (try (simp -implicitDefEqProofs (maxSteps := 2000000) (disch := first | omega | (simp only [ac, ae, ab]; first | done | omega)) only [push_cast, seval, im, io, ii, ir, iu, hc, hc0])) <;> (try (exfalso; omega))) | (simp -implicitDefEqProofs (maxSteps := 2000000) (disch := first | omega | (simp only [ac, ae, ab]; first | done | omega)) only [push_cast, seval, im, io, ii, ir, iu, hc0]))
      exact dz (o := (7, 0, 0, [])) (n := 1) (by (repeat first | assumption | exact af.refl _ | apply af.push | refine af.set ?_ (by first | omega | (simp only [ac, ae, ab]; omega) | (have h9 := af.size_le (by assumption); (try simp only [ac, ae, ab] at *); omega)) _ | refine af.drop ?_ (by first | omega | (simp only [ac, ae, ab]; omega) | (have h9 := af.size_le (by assumption); (try simp only [ac, ae, ab] at *); omega)) | refine af.trans ?_ (by assumption))) rfl
    · have n13 : ((c.toNat : Int) = 13) = False := eq_false fun e => k13 (nat 13 (by omega) e)
      by_cases k10 : c = 10
      · subst k10
        rw [hd]
        repeat' (first | ((first | apply ao | apply aj | apply am | apply al | apply an | apply ak | apply ai | apply ag | apply ah) <;> intro hc <;> (try (simp -implicitDefEqProofs (maxSteps := 2000000) (disch := first | omega | (simp only [ac, ae, ab]; first | done | omega)) only [push_cast, seval, im, io, ii, ir, iu, hc, hc0])) <;> (try (exfalso; omega))) | (simp -implicitDefEqProofs (maxSteps := 2000000) (disch := first | omega | (simp only [ac, ae, ab]; first | done | omega)) only [push_cast, seval, im, io, ii, ir, iu, hc0]))
        exact dz (o := (8, 0, 0, [])) (n := 1) (by (repeat first | assumption | exact af.refl _ | apply af.push | refine af.set ?_ (by first | omega | (simp only [ac, ae, ab]; omega) | (have h9 := af.size_le (by assumption); (try simp only [ac, ae, ab] at *); omega)) _ | refine af.drop ?_ (by first | omega | (simp only [ac, ae, ab]; omega) | (have h9 := af.size_le (by assumption); (try simp only [ac, ae, ab] at *); omega)) | refine af.trans ?_ (by assumption))) rfl
      · have n10 : ((c.toNat : Int) = 10) = False := eq_false fun e => k10 (nat 10 (by omega) e)
        have hpl : dU (s.drop n) = if (s.drop n).take 2 = [27, 91] then (lK ((s.drop n).drop 2)).map fun p => (p.1, p.2 + 2) else if bi (s.drop n) = 0 then none else some ((0, 0, 0, (s.drop n).take (bi (s.drop n))), bi (s.drop n)) := by
          rw [hd]
          unfold dU
          simp only
          rw [if_neg k7, if_neg k13, if_neg k10]
        rw [hpl]
        have hcp := oo hk (s.drop n) [27, 91] (by omega) (by decide)
        have hle := lQ (s.drop n)
        have hpo := uZ hk (s.drop n) (by omega)
        generalize hD : s.drop n = D at *
        by_cases hb : D.take 2 = [27, 91]
        · have hb2 : D.take ([27, 91] : List UInt8).length = [27, 91] := hb
          rw [if_pos hb2, decide_eq_true hb2] at hcp
          rw [if_pos hb]
          have hsq := auY hk hix (D.drop 2) (by rw [List.length_drop]; omega)
          cases hq : lK (D.drop 2) with
          | none =>
            rw [hq] at hsq
            repeat' (first | ((first | apply ao | apply aj | apply am | apply al | apply an | apply ak | apply ai | apply ag | apply ah) <;> intro hc <;> (try (simp -implicitDefEqProofs (maxSteps := 2000000) (disch := first | omega | (simp only [ac, ae, ab]; first | done | omega)) only [push_cast, seval, im, io, ii, ir, iu, hc, hc0, n7, n13, n10, htk2, hD, fS, eO])) <;> (try (exfalso; omega))) | refine ap (hcp) ?_ | refine ap (hsq) ?_ | (simp -implicitDefEqProofs (maxSteps := 2000000) (disch := first | omega | (simp only [ac, ae, ab]; first | done | omega)) only [push_cast, seval, im, io, ii, ir, iu, hc0, n7, n13, n10, htk2, hD, fS, eO]))
            exact ⟨by (repeat first | assumption | exact af.refl _ | apply af.push | refine af.set ?_ (by first | omega | (simp only [ac, ae, ab]; omega) | (have h9 := af.size_le (by assumption); (try simp only [ac, ae, ab] at *); omega)) _ | refine af.drop ?_ (by first | omega | (simp only [ac, ae, ab]; omega) | (have h9 := af.size_le (by assumption); (try simp only [ac, ae, ab] at *); omega)) | refine af.trans ?_ (by assumption)), Se.firm (az.tup (all_cons (az.agg (ez (0, 0, 0, []))) (all_cons (az.c _) all_nil)))⟩
          | some p =>
            obtain ⟨o, z⟩ := p
            rw [hq] at hsq
            have hz := (wR hq).2.2.2
            have hzl : z ≤ s.length := by have := hz.2; rw [List.length_drop] at this; omega
            repeat' (first | ((first | apply ao | apply aj | apply am | apply al | apply an | apply ak | apply ai | apply ag | apply ah) <;> intro hc <;> (try (simp -implicitDefEqProofs (maxSteps := 2000000) (disch := first | omega | (simp only [ac, ae, ab]; first | done | omega)) only [push_cast, seval, im, io, ii, ir, iu, hc, hc0, n7, n13, n10, htk2, hD, fS, eO])) <;> (try (exfalso; omega))) | refine ap (hcp) ?_ | refine ap (hsq) ?_ | (simp -implicitDefEqProofs (maxSteps := 2000000) (disch := first | omega | (simp only [ac, ae, ab]; first | done | omega)) only [push_cast, seval, im, io, ii, ir, iu, hc0, n7, n13, n10, htk2, hD, fS, eO]))
            all_goals (try (exfalso; omega))
            rw [show (z : Int) + 2 = (z : Int) + 1 + 1 by omega]
            exact ⟨by (repeat first | assumption | exact af.refl _ | apply af.push | refine af.set ?_ (by first | omega | (simp only [ac, ae, ab]; omega) | (have h9 := af.size_le (by assumption); (try simp only [ac, ae, ab] at *); omega)) _ | refine af.drop ?_ (by first | omega | (simp only [ac, ae, ab]; omega) | (have h9 := af.size_le (by assumption); (try simp only [ac, ae, ab] at *); omega)) | refine af.trans ?_ (by assumption)), Se.firm (az.tup (all_cons (az.agg (ez o)) (all_cons (az.c _) all_nil)))⟩
        · have hb2 : ¬ D.take ([27, 91] : List UInt8).length = [27, 91] := hb
          rw [if_neg hb2, decide_eq_false hb2] at hcp
          rw [if_neg hb]
          have htk3 : List.drop n (List.take (n + bi D) s) = D.take (bi D) := by
            rw [← hD, List.drop_take]
            congr 1
            omega
          by_cases hz : bi D = 0
          · rw [if_pos hz]
            rw [hz] at hpo
            repeat' (first | ((first | apply ao | apply aj | apply am | apply al | apply an | apply ak | apply ai | apply ag | apply ah) <;> intro hc <;> (try (simp -implicitDefEqProofs (maxSteps := 2000000) (disch := first | omega | (simp only [ac, ae, ab]; first | done | omega)) only [push_cast, seval, im, io, ii, ir, iu, hc, hc0, n7, n13, n10, htk2, hD])) <;> (try (exfalso; omega))) | refine ap (hcp) ?_ | refine ap (hpo) ?_ | (simp -implicitDefEqProofs (maxSteps := 2000000) (disch := first | omega | (simp only [ac, ae, ab]; first | done | omega)) only [push_cast, seval, im, io, ii, ir, iu, hc0, n7, n13, n10, htk2, hD]))
            exact eA (by (repeat first | assumption | exact af.refl _ | apply af.push | refine af.set ?_ (by first | omega | (simp only [ac, ae, ab]; omega) | (have h9 := af.size_le (by assumption); (try simp only [ac, ae, ab] at *); omega)) _ | refine af.drop ?_ (by first | omega | (simp only [ac, ae, ab]; omega) | (have h9 := af.size_le (by assumption); (try simp only [ac, ae, ab] at *); omega)) | refine af.trans ?_ (by assumption)))
          · rw [if_neg hz]
            repeat' (first | ((first | apply ao | apply aj | apply am | apply al | apply an | apply ak | apply ai | apply ag | apply ah) <;> intro hc <;> (try (simp -implicitDefEqProofs (maxSteps := 2000000) (disch := first | omega | (simp only [ac, ae, ab]; first | done | omega)) only [push_cast, seval, im, io, ii, ir, iu, hc, hc0, n7, n13, n10, htk2, hD, htk3])) <;> (try (exfalso; omega))) | refine ap (hcp) ?_ | refine ap (hpo) ?_ | (simp -implicitDefEqProofs (maxSteps := 2000000) (disch := first | omega | (simp only [ac, ae, ab]; first | done | omega)) only [push_cast, seval, im, io, ii, ir, iu, hc0, n7, n13, n10, htk2, hD, htk3]))
            all_goals (try (exfalso; omega))
            exact dz (o := (0, 0, 0, D.take (bi D))) (by (repeat first | assumption | exact af.refl _ | apply af.push | refine af.set ?_ (by first | omega | (simp only [ac, ae, ab]; omega) | (have h9 := af.size_le (by assumption); (try simp only [ac, ae, ab] at *); omega)) _ | refine af.drop ?_ (by first | omega | (simp only [ac, ae, ab]; omega) | (have h9 := af.size_le (by assumption); (try simp only [ac, ae, ab] at *); omega)) | refine af.trans ?_ (by assumption))) rfl
theorem gK (hix : ∀ (l : List UInt8) (c : UInt8), PC (XK k) 149 [tx l, tx [c]] (.c (.int .i64 (Lib.indexByte l c)))) (s : List UInt8) (hs : s.length < 1000000) : PC (XK k) 29 [tx s] (dZ (bC s)) := by
  refine aI fun st => ?_
  refine avK (hk _ (by decide) (by decide)) ?_
  repeat' (first | ((first | apply ao | apply aj | apply am | apply al | apply an | apply ak | apply ai | apply ag | apply ah) <;> intro hc <;> (try (simp -implicitDefEqProofs (maxSteps := 2000000) (disch := first | omega | (simp only [ac, ae, ab]; first | done | omega)) only [push_cast, seval, mo, mf, ml, hc])) <;> (try (exfalso; omega))) | refine ap (KI hk s) ?_ | (simp -implicitDefEqProofs (maxSteps := 2000000) (disch := first | omega | (simp only [ac, ae, ab]; first | done | omega)) only [push_cast, seval, mo, mf, ml]))
  refine aM (fun m ρ s' => ∃ (n : Nat) (l : List Ot) (v : AV), m = s.length - n ∧ n ≤ s.length ∧ l.length ≤ n ∧ bC s = (bC (s.drop n)).map (l ++ ·) ∧ ρ.get 0 = tx s ∧ ρ.get 4 = v ∧ ρ.get 5 = .fn 89 [] [.fptr [tx s] 0] ∧ ρ.get 6 = .c (.int .i64 n) ∧ Gw st s' 44 4 v l.length (l.map eO).flatten ∧ af st s') s.length
    ⟨0, [], _, rfl, Nat.zero_le _, Nat.le_refl _, by simp, by (((try simp -implicitDefEqProofs only [aw, aq, au.get_set, ar, List.getD_cons_zero, List.getD_cons_succ, ↓reduceIte, reduceCtorEq, Nat.reduceEqDiff]); try (first | (with_reducible assumption) | (with_reducible rfl) | (congr 2 <;> omega) | rfl))), by (((try simp -implicitDefEqProofs only [aw, aq, au.get_set, ar, List.getD_cons_zero, List.getD_cons_succ, ↓reduceIte, reduceCtorEq, Nat.reduceEqDiff]); try (first | (with_reducible assumption) | (with_reducible rfl) | (congr 2 <;> omega) | rfl))), by (((try simp -implicitDefEqProofs only [aw, aq, au.get_set, ar, List.getD_cons_zero, List.getD_cons_succ, ↓reduceIte, reduceCtorEq, Nat.reduceEqDiff]); try (first | (with_reducible assumption) | (with_reducible rfl) | (congr 2 <;> omega) | rfl))), by (((try simp -implicitDefEqProofs only [aw, aq, au.get_set, ar, List.getD_cons_zero, List.getD_cons_succ, ↓reduceIte, reduceCtorEq, Nat.reduceEqDiff]); try (first | (with_reducible assumption) | (with_reducible rfl) | (congr 2 <;> omega) | rfl))), .nil, by (repeat first | assumption | exact af.refl _ | apply af.push | refine af.set ?_ (by first | omega | (simp only [ac, ae, ab]; omega) | (have h9 := af.size_le (by assumption); (try simp only [ac, ae, ab] at *); omega)) _ | refine af.drop ?_ (by first | omega | (simp only [ac, ae, ab]; omega) | (have h9 := af.size_le (by assumption); (try simp only [ac, ae, ab] at *); omega)) | refine af.trans ?_ (by assumption))⟩ ?_
  rintro m ρ s' ⟨n, l, v, rfl, hn, hl, hp, g0, g4, g5, g6, j1, j2⟩
  by_cases c1 : n < s.length
  · have w := ai4 hk hix s hs n c1
    have hne : s.drop n ≠ [] := fun e => by have := List.drop_eq_nil_iff.1 e; omega
    cases hq : dU (s.drop n) with
    | none =>
      rw [hq] at w
      rw [qy hne hq] at hp
      repeat' (first | ((first | apply ao | apply aj | apply am | apply al | apply an | apply ak | apply ai | apply ag | apply ah) <;> intro hc <;> (try (simp -implicitDefEqProofs (maxSteps := 2000000) (disch := first | omega | (simp only [ac, ae, ab]; first | done | omega)) only [push_cast, seval, mo, mf, ml, hc, g0, g4, g5, g6, fS, eO])) <;> (try (exfalso; omega))) | refine ap (w) ?_ | (simp -implicitDefEqProofs (maxSteps := 2000000) (disch := first | omega | (simp only [ac, ae, ab]; first | done | omega)) only [push_cast, seval, mo, mf, ml, g0, g4, g5, g6, fS, eO]))
      rw [hp]
      exact ⟨by (repeat first | assumption | exact af.refl _ | apply af.push | refine af.set ?_ (by first | omega | (simp only [ac, ae, ab]; omega) | (have h9 := af.size_le (by assumption); (try simp only [ac, ae, ab] at *); omega)) _ | refine af.drop ?_ (by first | omega | (simp only [ac, ae, ab]; omega) | (have h9 := af.size_le (by assumption); (try simp only [ac, ae, ab] at *); omega)) | refine af.trans ?_ (by assumption)), Se.tup (Ses.cons (Se.nil 4) (Ses.cons (Se.c _) Ses.nil))⟩
    | some p =>
      obtain ⟨o, z⟩ := p
      rw [hq] at w
      obtain ⟨_, _, z1, z2, _⟩ := kV hq
      rw [List.length_drop] at z2
      rw [kM hne hq, List.drop_drop] at hp
      repeat' (first | ((first | apply ao | apply aj | apply am | apply al | apply an | apply ak | apply ai | apply ag | apply ah) <;> intro hc <;> (try (simp -implicitDefEqProofs (maxSteps := 2000000) (disch := first | omega | (simp only [ac, ae, ab]; first | done | omega)) only [push_cast, seval, mo, mf, ml, hc, g0, g4, g5, g6, fS, eO])) <;> (try (exfalso; omega))) | refine ap (w) ?_ | (simp -implicitDefEqProofs (maxSteps := 2000000) (disch := first | omega | (simp only [ac, ae, ab]; first | done | omega)) only [push_cast, seval, mo, mf, ml, g0, g4, g5, g6, fS, eO]))
      all_goals (try (exfalso; omega))
      refine Gw.step (sz := 4) (((j1.push _).set (fun hb => by have := (j1.blk hb).2; omega) _).push _) (by (repeat first | assumption | exact af.refl _ | apply af.push | refine af.set ?_ (by first | omega | (simp only [ac, ae, ab]; omega) | (have h9 := af.size_le (by assumption); (try simp only [ac, ae, ab] at *); omega)) _ | refine af.drop ?_ (by first | omega | (simp only [ac, ae, ab]; omega) | (have h9 := af.size_le (by assumption); (try simp only [ac, ae, ab] at *); omega)) | refine af.trans ?_ (by assumption))) rfl rfl (pi o) (cp (by constructor <;> (try dsimp only) <;> omega)) ?_
      intro v2 s2 hg _ _ hkp
      (try (simp -implicitDefEqProofs (maxSteps := 2000000) (disch := first | omega | (simp only [ac, ae, ab]; first | done | omega)) only [push_cast, seval, mo, mf, ml, g0, g4, g5, g6])) <;> (repeat' ((first | apply ao | apply aj | apply am | apply al | apply an | apply ak | apply ai | apply ag | apply ah) <;> intro hc <;> try (simp -implicitDefEqProofs (maxSteps := 2000000) (disch := first | omega | (simp only [ac, ae, ab]; first | done | omega)) only [push_cast, seval, mo, mf, ml, hc, g0, g4, g5, g6])))
      all_goals (try (exfalso; omega))
      refine ⟨_ - (n + z), by omega, n + z, l ++ [o], v2, rfl, by omega, by simp; omega, ?_, rfl, congrArg (fun z => AV.c (.int .i64 z)) (by omega), ?_, hkp⟩
      · rw [hp]
        cases bC (s.drop (n + z)) <;> simp
      · simp only [List.length_append, List.length_singleton, List.map_append, List.flatten_append, List.map_cons, List.map_nil, List.flatten_cons, List.flatten_nil, List.append_nil]
        exact hg
  · have hn2 : n = s.length := by omega
    subst hn2
    rw [List.drop_length, nB] at hp
    repeat' (first | ((first | apply ao | apply aj | apply am | apply al | apply an | apply ak | apply ai | apply ag | apply ah) <;> intro hc <;> (try (simp -implicitDefEqProofs (maxSteps := 2000000) (disch := first | omega | (simp only [ac, ae, ab]; first | done | omega)) only [push_cast, seval, mo, mf, ml, hc, g0, g4, g5, g6])) <;> (try (exfalso; omega))) | (simp -implicitDefEqProofs (maxSteps := 2000000) (disch := first | omega | (simp only [ac, ae, ab]; first | done | omega)) only [push_cast, seval, mo, mf, ml, g0, g4, g5, g6]))
    all_goals (try (exfalso; omega))
    rw [hp]
    have e : dZ ((some []).map (l ++ ·)) = .tup [LO l, .c (.int .i64 0)] := by simp [dZ]
    rw [e]
    have ho := (j1.outm (X := XK k) j2 jq ez (by omega)).2
    exact ⟨j2, Se.tup (Ses.cons ho (Ses.cons (Se.c _) Ses.nil))⟩
theorem lM (hix : ∀ (l : List UInt8) (c : UInt8), PC (XK k) 149 [tx l, tx [c]] (.c (.int .i64 (Lib.indexByte l c)))) (s : List UInt8) (hs : s.length < 1000000) : PC (XK k) 34 [tx s] (.c (.bool (bC s).isSome)) := by
  refine aI fun st => ?_
  refine avD (hk _ (by decide) (by decide)) ?_
  have w := gK hk hix s hs
  cases hq : bC s with
  | none =>
    rw [hq] at w
    repeat' (first | ((first | apply ao | apply aj | apply am | apply al | apply an | apply ak | apply ai | apply ag | apply ah) <;> intro hc <;> (try (simp -implicitDefEqProofs (maxSteps := 2000000) (disch := first | omega | (simp only [ac, ae, ab]; first | done | omega)) only [push_cast, seval, PF, hc, dZ])) <;> (try (exfalso; omega))) | refine ap (w) ?_ | (simp -implicitDefEqProofs (maxSteps := 2000000) (disch := first | omega | (simp only [ac, ae, ab]; first | done | omega)) only [push_cast, seval, PF, dZ]))
    exact aK (by (repeat first | assumption | exact af.refl _ | apply af.push | refine af.set ?_ (by first | omega | (simp only [ac, ae, ab]; omega) | (have h9 := af.size_le (by assumption); (try simp only [ac, ae, ab] at *); omega)) _ | refine af.drop ?_ (by first | omega | (simp only [ac, ae, ab]; omega) | (have h9 := af.size_le (by assumption); (try simp only [ac, ae, ab] at *); omega)) | refine af.trans ?_ (by assumption))) rfl
  | some l =>
    rw [hq] at w
    repeat' (first | ((first | apply ao | apply aj | apply am | apply al | apply an | apply ak | apply ai | apply ag | apply ah) <;> intro hc <;> (try (simp -implicitDefEqProofs (maxSteps := 2000000) (disch := first | omega | (simp only [ac, ae, ab]; first | done | omega)) only [push_cast, seval, PF, hc, dZ])) <;> (try (exfalso; omega))) | refine ap (w) ?_ | (simp -implicitDefEqProofs (maxSteps := 2000000) (disch := first | omega | (simp only [ac, ae, ab]; first | done | omega)) only [push_cast, seval, PF, dZ]))
    exact aK (by (repeat first | assumption | exact af.refl _ | apply af.push | refine af.set ?_ (by first | omega | (simp only [ac, ae, ab]; omega) | (have h9 := af.size_le (by assumption); (try simp only [ac, ae, ab] at *); omega)) _ | refine af.drop ?_ (by first | omega | (simp only [ac, ae, ab]; omega) | (have h9 := af.size_le (by assumption); (try simp only [ac, ae, ab] at *); omega)) | refine af.trans ?_ (by assumption))) rfl
theorem S5 (o : Ot) (hl : o.2.2.2.length < 1000000) : PC (XK k) 26 [.agg (eO o)] (.c (.int .i64 (if aW o = true then 0 else 2))) := by
  refine aI fun st => ?_
  refine auI (hk _ (by decide) (by decide)) ?_
  have w := ug hk o hl
  cases hq : aW o with
  | true =>
    rw [hq] at w
    repeat' (first | ((first | apply ao | apply aj | apply am | apply al | apply an | apply ak | apply ai | apply ag | apply ah) <;> intro hc <;> (try (simp -implicitDefEqProofs (maxSteps := 2000000) (disch := first | omega | (simp only [ac, ae, ab]; first | done | omega)) only [push_cast, seval, MO, Od, hc, eO])) <;> (try (exfalso; omega))) | refine ap (w) ?_ | (simp -implicitDefEqProofs (maxSteps := 2000000) (disch := first | omega | (simp only [ac, ae, ab]; first | done | omega)) only [push_cast, seval, MO, Od, eO]))
    exact aD (by (repeat first | assumption | exact af.refl _ | apply af.push | refine af.set ?_ (by first | omega | (simp only [ac, ae, ab]; omega) | (have h9 := af.size_le (by assumption); (try simp only [ac, ae, ab] at *); omega)) _ | refine af.drop ?_ (by first | omega | (simp only [ac, ae, ab]; omega) | (have h9 := af.size_le (by assumption); (try simp only [ac, ae, ab] at *); omega)) | refine af.trans ?_ (by assumption))) rfl
  | false =>
    rw [hq] at w
    repeat' (first | ((first | apply ao | apply aj | apply am | apply al | apply an | apply ak | apply ai | apply ag | apply ah) <;> intro hc <;> (try (simp -implicitDefEqProofs (maxSteps := 2000000) (disch := first | omega | (simp only [ac, ae, ab]; first | done | omega)) only [push_cast, seval, MO, Od, hc, eO])) <;> (try (exfalso; omega))) | refine ap (w) ?_ | (simp -implicitDefEqProofs (maxSteps := 2000000) (disch := first | omega | (simp only [ac, ae, ab]; first | done | omega)) only [push_cast, seval, MO, Od, eO]))
    exact aD (by (repeat first | assumption | exact af.refl _ | apply af.push | refine af.set ?_ (by first | omega | (simp only [ac, ae, ab]; omega) | (have h9 := af.size_le (by assumption); (try simp only [ac, ae, ab] at *); omega)) _ | refine af.drop ?_ (by first | omega | (simp only [ac, ae, ab]; omega) | (have h9 := af.size_le (by assumption); (try simp only [ac, ae, ab] at *); omega)) | refine af.trans ?_ (by assumption))) rfl
omit hk in
theorem anC {x y : Ot} (h1 : x.1 = y.1) (h2 : x.2.1 = y.2.1) (h3 : x.2.2.1 = y.2.2.1) (h4 : x.2.2.2 = y.2.2.2) : x = y := by
  obtain ⟨a, b, c, d⟩ := x
  obtain ⟨a', b', c', d'⟩ := y
  simp only at h1 h2 h3 h4
  subst h1 h2 h3 h4
  rfl
theorem aeE (a b : List Ot) (hn : a.length < 1099511627776) : PC (XK k) 24 [LO a, LO b] (.c (.bool (decide (a = b)))) := by
  refine aI fun s => ?_
  refine auE (hk _ (by decide) (by decide)) ?_
  (try (simp -implicitDefEqProofs (maxSteps := 2000000) (disch := first | omega | (simp only [ac, ae, ab]; first | done | omega)) only [push_cast, seval, wF, wt, wD])) <;> (repeat' ((first | apply ao | apply aj | apply am | apply al | apply an | apply ak | apply ai | apply ag | apply ah) <;> intro hc <;> try (simp -implicitDefEqProofs (maxSteps := 2000000) (disch := first | omega | (simp only [ac, ae, ab]; first | done | omega)) only [push_cast, seval, wF, wt, wD, hc])))
  · exact aK (by (repeat first | assumption | exact af.refl _ | apply af.push | refine af.set ?_ (by first | omega | (simp only [ac, ae, ab]; omega) | (have h9 := af.size_le (by assumption); (try simp only [ac, ae, ab] at *); omega)) _ | refine af.drop ?_ (by first | omega | (simp only [ac, ae, ab]; omega) | (have h9 := af.size_le (by assumption); (try simp only [ac, ae, ab] at *); omega)) | refine af.trans ?_ (by assumption))) (by symm; simp; rintro rfl; exact hc rfl)
  · have hl : a.length = b.length := by omega
    refine aM (fun m ρ s' => ∃ i : Nat, m = a.length - i ∧ i ≤ a.length ∧ ρ.get 0 = LO a ∧ ρ.get 1 = LO b ∧ ρ.get 12 = .c (.int .i64 a.length) ∧ ρ.get 13 = .c (.int .i64 i) ∧ (s' = s) ∧ (a.take i = b.take i)) (a.length) ⟨0, rfl, Nat.zero_le _, by (((try simp -implicitDefEqProofs only [aw, aq, au.get_set, ar, List.getD_cons_zero, List.getD_cons_succ, ↓reduceIte, reduceCtorEq, Nat.reduceEqDiff]); try (first | (with_reducible assumption) | (with_reducible rfl) | (congr 2 <;> omega) | rfl))), by (((try simp -implicitDefEqProofs only [aw, aq, au.get_set, ar, List.getD_cons_zero, List.getD_cons_succ, ↓reduceIte, reduceCtorEq, Nat.reduceEqDiff]); try (first | (with_reducible assumption) | (with_reducible rfl) | (congr 2 <;> omega) | rfl))), by (((try simp -implicitDefEqProofs only [aw, aq, au.get_set, ar, List.getD_cons_zero, List.getD_cons_succ, ↓reduceIte, reduceCtorEq, Nat.reduceEqDiff]); try (first | (with_reducible assumption) | (with_reducible rfl) | (congr 2 <;> omega) | rfl))), by (((try simp -implicitDefEqProofs only [aw, aq, au.get_set, ar, List.getD_cons_zero, List.getD_cons_succ, ↓reduceIte, reduceCtorEq, Nat.reduceEqDiff]); try (first | (with_reducible assumption) | (with_reducible rfl) | (congr 2 <;> omega) | rfl))), rfl, rfl⟩ ?_
    rintro m ρ s' ⟨i, rfl, hi, g0, g1, g12, g13, j1, j2⟩
    subst j1
    (try (simp -implicitDefEqProofs (maxSteps := 2000000) (disch := first | omega | (simp only [ac, ae, ab]; first | done | omega)) only [push_cast, seval, wF, wt, wD, g0, g1, g12, g13])) <;> (repeat' ((first | apply ao | apply aj | apply am | apply al | apply an | apply ak | apply ai | apply ag | apply ah) <;> intro hc <;> try (simp -implicitDefEqProofs (maxSteps := 2000000) (disch := first | omega | (simp only [ac, ae, ab]; first | done | omega)) only [push_cast, seval, wF, wt, wD, hc, g0, g1, g12, g13])))
    · have hil : i < a.length := by omega
      have hx := List.getElem?_eq_getElem hil
      have hy := List.getElem?_eq_getElem (show i < b.length by omega)
      generalize a[i] = x at hx
      generalize b[i] = y at hy
      (try (simp -implicitDefEqProofs (maxSteps := 2000000) (disch := first | omega | (simp only [ac, ae, ab]; first | done | omega)) only [push_cast, seval, wF, wt, wD, g0, g1, g12, g13, hx, hy, eO])) <;> (repeat' ((first | apply ao | apply aj | apply am | apply al | apply an | apply ak | apply ai | apply ag | apply ah) <;> intro hc <;> try (simp -implicitDefEqProofs (maxSteps := 2000000) (disch := first | omega | (simp only [ac, ae, ab]; first | done | omega)) only [push_cast, seval, wF, wt, wD, hc, g0, g1, g12, g13, hx, hy, eO])))
      · exact aK (by (repeat first | assumption | exact af.refl _ | apply af.push | refine af.set ?_ (by first | omega | (simp only [ac, ae, ab]; omega) | (have h9 := af.size_le (by assumption); (try simp only [ac, ae, ab] at *); omega)) _ | refine af.drop ?_ (by first | omega | (simp only [ac, ae, ab]; omega) | (have h9 := af.size_le (by assumption); (try simp only [ac, ae, ab] at *); omega)) | refine af.trans ?_ (by assumption))) (by symm; rw [decide_eq_false_iff_not]; rintro rfl; rw [hx] at hy; cases hy; simp at hc)
      · refine ⟨_ - (i + 1), by omega, i + 1, rfl, by omega, ?_⟩ <;> (try simp only [Int.natCast_add, Int.natCast_one, nP, and_true, true_and, eq_self])
        rw [aV hx, aV hy, j2]
        simp at hc
        rw [anC hc.1 hc.2.1 hc.2.2.1 hc.2.2.2]
    · have : i = a.length := by omega
      subst this
      rw [List.take_length, hl, List.take_length] at j2
      exact aK (by (repeat first | assumption | exact af.refl _ | apply af.push | refine af.set ?_ (by first | omega | (simp only [ac, ae, ab]; omega) | (have h9 := af.size_le (by assumption); (try simp only [ac, ae, ab] at *); omega)) _ | refine af.drop ?_ (by first | omega | (simp only [ac, ae, ab]; omega) | (have h9 := af.size_le (by assumption); (try simp only [ac, ae, ab] at *); omega)) | refine af.trans ?_ (by assumption))) (by symm; exact decide_eq_true j2)
end
end Go.Proofs.YticllcglldbffaaDoor.Ab
