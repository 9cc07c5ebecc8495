/- A history's lines read: esc.first, the adder, esc.Unline. -/
import Derived.Test.YticllcglldbffaaQ2
import Derived.Test.YticllcglldbffaaG3
namespace Go.Proofs.Yticllcglldbffaa.Ab
open Go.Proofs
set_option maxRecDepth 100000
set_option maxHeartbeats 4000000
set_option linter.unusedSimpArgs false
set_option linter.unusedVariables false
set_option linter.unnecessarySimpa false
set_option linter.unusedSectionVars false
theorem oneL_asc' {c : UInt8} {r : List UInt8} (h : c.toNat < 128) : oneL (c :: r) = ((c.toNat : Int), 1) := by
  have := oneL_enc (v := (c.toNat : Int)) (by omega) (by omega) (by omega) r
  unfold encV at this
  rw [if_pos (by omega)] at this
  simpa using this
theorem Gw.shape {s0 s : VS} {e sz n : Nat} {v : AV} {cs : List AV} (h : Gw s0 s e sz v n cs) : (v = .c (.slice none 0 0) ∧ n = 0) ∨ (v = .emp ∧ n = 0) ∨ ∃ a c, v = .sl a n c := by
  cases h
  · exact .inl ⟨rfl, rfl⟩
  · exact .inr (.inl ⟨rfl, rfl⟩)
  · exact .inr (.inr ⟨_, _, rfl⟩)
  · exact .inr (.inr ⟨_, _, rfl⟩)
section
variable {k : Nat → List Value → Option Value} (hk : ∀ f, f ≠ 32 → f ≠ 51 → Open k f)
include hk
theorem escFirst_ok (hun : ∀ n, n < 16777216 → PC (XK k) 36 [tx (hexP n 6)] (.tup [.c (.int .i64 n), .c (.int .i64 0)])) {v : Int} (hv : right v = true) (r : List UInt8) (hl : r.length < 100000) :
    PC (XK k) 26 [tx (escV v ++ r)] (.tup [.c (.int .i64 v), .c (.int .i64 (escV v).length)]) := by
  refine PC_of fun st => ?_
  refine f26_in (hk _ (by decide) (by decide)) ?_
  have hrg := right_rg hv
  have hvl := escV_len hv
  have hsl : (escV v ++ r).length < 1000000 := by rw [List.length_append]; omega
  have p1 := hasPrefix_ok hk (escV v ++ r) [92, 92] (by omega) (by simp)
  have p2 := hasPrefix_ok hk (escV v ++ r) [92, 117] (by omega) (by simp)
  by_cases v1 : v = 92
  · subst v1
    rw [decide_eq_true (by rfl)] at p1
    repeat' (first | ((first | apply ga_dec | apply ga_ndec | apply cd_dec | apply cd_ndec | apply gd_dec | apply gd_ndec | apply ga_split | apply cd_split | apply gd_split) <;> intro hc <;> (try (simp -implicitDefEqProofs (maxSteps := 2000000) (disch := first | omega | (simp only [vz_push, vz_set, drop_size]; first | done | omega)) only [push_cast, seval, f26N0, f26N1, f26N2, hc])) <;> (try (exfalso; omega))) | refine VC_pure (p1) ?_ | (simp -implicitDefEqProofs (maxSteps := 2000000) (disch := first | omega | (simp only [vz_push, vz_set, drop_size]; first | done | omega)) only [push_cast, seval, f26N0, f26N1, f26N2]))
    exact ⟨by (repeat first | assumption | exact KeepA.refl _ | apply KeepA.push | refine KeepA.set ?_ (by first | omega | (simp only [vz_push, vz_set, drop_size]; omega) | (have h9 := KeepA.size_le (by assumption); (try simp only [vz_push, vz_set, drop_size] at *); omega)) _ | refine KeepA.drop ?_ (by first | omega | (simp only [vz_push, vz_set, drop_size]; omega) | (have h9 := KeepA.size_le (by assumption); (try simp only [vz_push, vz_set, drop_size] at *); omega)) | refine KeepA.trans ?_ (by assumption)), Se.firm (Firm.tup (all_cons (Firm.c _) (all_cons (Firm.c _) all_nil)))⟩
  · by_cases v2 : 32 ≤ v ∧ v ≤ 126
    · have ev : escV v = [UInt8.ofNat v.toNat] := by unfold escV; rw [if_neg v1, if_pos v2]
      have en : (UInt8.ofNat v.toNat).toNat = v.toNat := UInt8.toNat_ofNat_of_lt' (by simp; omega)
      have ne : UInt8.ofNat v.toNat ≠ 92 := fun e => by
        have := congrArg UInt8.toNat e
        rw [en] at this
        simp at this
        omega
      have w := one_ok hk (escV v ++ r) (by rw [ev]; simp) (by omega)
      rw [ev] at p1 p2 w ⊢
      generalize UInt8.ofNat v.toNat = c at *
      rw [List.singleton_append, oneL_asc' (by omega)] at w
      rw [decide_eq_false (by simp [ne])] at p1
      rw [decide_eq_false (by simp [ne])] at p2
      have ec : (c.toNat : Int) = v := by omega
      rw [ec] at w
      repeat' (first | ((first | apply ga_dec | apply ga_ndec | apply cd_dec | apply cd_ndec | apply gd_dec | apply gd_ndec | apply ga_split | apply cd_split | apply gd_split) <;> intro hc <;> (try (simp -implicitDefEqProofs (maxSteps := 2000000) (disch := first | omega | (simp only [vz_push, vz_set, drop_size]; first | done | omega)) only [push_cast, seval, f26N0, f26N1, f26N2, hc])) <;> (try (exfalso; omega))) | refine VC_pure (p1) ?_ | refine VC_pure (p2) ?_ | refine VC_pure (w) ?_ | (simp -implicitDefEqProofs (maxSteps := 2000000) (disch := first | omega | (simp only [vz_push, vz_set, drop_size]; first | done | omega)) only [push_cast, seval, f26N0, f26N1, f26N2]))
      exact ⟨by (repeat first | assumption | exact KeepA.refl _ | apply KeepA.push | refine KeepA.set ?_ (by first | omega | (simp only [vz_push, vz_set, drop_size]; omega) | (have h9 := KeepA.size_le (by assumption); (try simp only [vz_push, vz_set, drop_size] at *); omega)) _ | refine KeepA.drop ?_ (by first | omega | (simp only [vz_push, vz_set, drop_size]; omega) | (have h9 := KeepA.size_le (by assumption); (try simp only [vz_push, vz_set, drop_size] at *); omega)) | refine KeepA.trans ?_ (by assumption)), Se.firm (Firm.tup (all_cons (Firm.c _) (all_cons (Firm.c _) all_nil)))⟩
    · have ev : escV v = 92 :: 117 :: hexP v.toNat 6 := by unfold escV; rw [if_neg v1, if_neg v2]; rfl
      have h6 := hex6_len (n := v.toNat) (by omega)
      have w := hun v.toNat (by omega)
      have hr := right_ok hk v
      rw [hv] at hr
      have ec : ((v.toNat : Nat) : Int) = v := by omega
      rw [ec] at w
      have htk : List.drop 2 (List.take 8 (escV v ++ r)) = hexP v.toNat 6 := by
        rw [ev]
        show List.take 6 (hexP v.toNat 6 ++ r) = _
        exact List.take_left' h6
      have hln : (escV v ++ r).length = 8 + r.length := by rw [List.length_append, ev, List.length_cons, List.length_cons, h6]
      rw [decide_eq_false (by rw [ev]; simp)] at p1
      rw [decide_eq_true (by rw [ev]; rfl)] at p2
      have hl8 : (escV v).length = 8 := by rw [ev, List.length_cons, List.length_cons, h6]
      rw [hl8]
      generalize escV v ++ r = s at *
      repeat' (first | ((first | apply ga_dec | apply ga_ndec | apply cd_dec | apply cd_ndec | apply gd_dec | apply gd_ndec | apply ga_split | apply cd_split | apply gd_split) <;> intro hc <;> (try (simp -implicitDefEqProofs (maxSteps := 2000000) (disch := first | omega | (simp only [vz_push, vz_set, drop_size]; first | done | omega)) only [push_cast, seval, f26N0, f26N1, f26N2, hc, htk, hln])) <;> (try (exfalso; omega))) | refine VC_pure (p1) ?_ | refine VC_pure (p2) ?_ | refine VC_pure (w) ?_ | refine VC_pure (hr) ?_ | (simp -implicitDefEqProofs (maxSteps := 2000000) (disch := first | omega | (simp only [vz_push, vz_set, drop_size]; first | done | omega)) only [push_cast, seval, f26N0, f26N1, f26N2, htk, hln]))
      all_goals (try (exfalso; omega))
      exact ⟨by (repeat first | assumption | exact KeepA.refl _ | apply KeepA.push | refine KeepA.set ?_ (by first | omega | (simp only [vz_push, vz_set, drop_size]; omega) | (have h9 := KeepA.size_le (by assumption); (try simp only [vz_push, vz_set, drop_size] at *); omega)) _ | refine KeepA.drop ?_ (by first | omega | (simp only [vz_push, vz_set, drop_size]; omega) | (have h9 := KeepA.size_le (by assumption); (try simp only [vz_push, vz_set, drop_size] at *); omega)) | refine KeepA.trans ?_ (by assumption)), Se.firm (Firm.tup (all_cons (Firm.c _) (all_cons (Firm.c _) all_nil)))⟩
omit hk in
/-- What the adder may reach: the line at row b, the boxes of its pointer and its bound. -/
structure Ad (s0 s : VS) (b p1 p2 : Nat) (long : Int) (v : AV) (l : List (Int × Int)) : Prop where
  hb : s.get b = some (.own ⟨[v], 30, 0, 0, false⟩)
  hb0 : s0.size ≤ b
  hg : Gw s0 s 41 2 v l.length (l.map eS).flatten
  hne : blkOf v ≠ some b
  hk0 : KeepA s0 s
  h1 : ∃ e, s.get p1 = some (.own ⟨[.ptr ⟨b, 0, none⟩], e, 0, 0, false⟩)
  h2 : ∃ e, s.get p2 = some (.own ⟨[.c (.int .i64 long)], e, 0, 0, false⟩)
  n1 : p1 ≠ b ∧ blkOf v ≠ some p1
  n2 : p2 ≠ b ∧ blkOf v ≠ some p2
theorem escAdd_ok {s0 s : VS} {b p1 p2 : Nat} {long : Int} {v : AV} {l : List (Int × Int)} (h : Ad s0 s b p1 p2 long v l) (hn : l.length < 1000) (x : Int) {K : AV → VS → Prop}
    (h1 : long ≤ l.length → K (.c (.bool false)) s)
    (h2 : (l.length : Int) < long → ∀ v' s', Ad s0 s' b p1 p2 long v' (l ++ [(x, 3)]) → (∀ c o, s.get c = some o → c ≠ b → blkOf v ≠ some c → s'.get c = some o ∧ blkOf v' ≠ some c) → K (.c (.bool true)) s') :
    VC (XK k) 34 [.c (.int .i64 x), .ptr ⟨p1, 0, none⟩, .ptr ⟨p2, 0, none⟩] s K := by
  refine f34_in (hk _ (by decide) (by decide)) ?_
  obtain ⟨hb, hb0, hg, hne, hk0, ⟨e1, q1⟩, ⟨e2, q2⟩, n1, n2⟩ := h
  have hbs := VS.lt_of_get hb
  have z1 := VS.lt_of_get q1
  have z2 := VS.lt_of_get q2
  rcases hg.shape with ⟨rfl, hz⟩ | ⟨rfl, hz⟩ | ⟨a, c, rfl⟩
  all_goals repeat' (first | ((first | apply ga_dec | apply ga_ndec | apply cd_dec | apply cd_ndec | apply gd_dec | apply gd_ndec | apply ga_split | apply cd_split | apply gd_split) <;> intro hc <;> (try (simp -implicitDefEqProofs (maxSteps := 2000000) (disch := first | omega | (simp only [vz_push, vz_set, drop_size]; first | done | omega)) only [push_cast, seval, f34N0, f34N1, hc, hb, q1, q2])) <;> (try (exfalso; omega))) | (simp -implicitDefEqProofs (maxSteps := 2000000) (disch := first | omega | (simp only [vz_push, vz_set, drop_size]; first | done | omega)) only [push_cast, seval, f34N0, f34N1, hb, q1, q2]))
  all_goals (try (first | exact h1 (by omega) | (exfalso; omega)))
  all_goals
    refine Gw.step (sz := 2) (hg.push _) (by (repeat first | assumption | exact KeepA.refl _ | apply KeepA.push | refine KeepA.set ?_ (by first | omega | (simp only [vz_push, vz_set, drop_size]; omega) | (have h9 := KeepA.size_le (by assumption); (try simp only [vz_push, vz_set, drop_size] at *); omega)) _ | refine KeepA.drop ?_ (by first | omega | (simp only [vz_push, vz_set, drop_size]; omega) | (have h9 := KeepA.size_le (by assumption); (try simp only [vz_push, vz_set, drop_size] at *); omega)) | refine KeepA.trans ?_ (by assumption))) rfl rfl rfl (room_ok (by constructor <;> (try dsimp only) <;> omega)) ?_
    intro v2 s2 hg2 hbut hblk hkp
    have g2 := hbut.get (b := b) ((gp_ne (by omega)).trans hb) hne
    have g3 := hbut.get (b := p1) ((gp_ne (by omega)).trans q1) n1.2
    have g4 := hbut.get (b := p2) ((gp_ne (by omega)).trans q2) n2.2
    have hb2 := VS.lt_of_get g2
    obtain ⟨a2, c2, rfl⟩ := hg2.isSl (by omega)
    have hne2 : ∀ c, c < s.size → blkOf _ ≠ some c → blkOf (.sl a2 (l.length + 1) c2) ≠ some c := fun c hc hn h => hn (hblk c (by rw [vz_push]; omega) h)
    (try (simp -implicitDefEqProofs (maxSteps := 2000000) (disch := first | omega | (simp only [vz_push, vz_set, drop_size]; first | done | omega)) only [push_cast, seval, f34N0, f34N1, hb, q1, q2, g2, g3, g4])) <;> (repeat' ((first | apply ga_dec | apply ga_ndec | apply cd_dec | apply cd_ndec | apply gd_dec | apply gd_ndec | apply ga_split | apply cd_split | apply gd_split) <;> intro hc <;> try (simp -implicitDefEqProofs (maxSteps := 2000000) (disch := first | omega | (simp only [vz_push, vz_set, drop_size]; first | done | omega)) only [push_cast, seval, f34N0, f34N1, hc, hb, q1, q2, g2, g3, g4])))
    refine ⟨(hbut.2 p1 (by rw [vz_push]; omega) n1.2).2, ?_⟩
    refine h2 (by omega) _ _ ⟨gs_eq rfl hb2, hb0, ?_, hne2 b hbs hne, by (repeat first | assumption | exact KeepA.refl _ | apply KeepA.push | refine KeepA.set ?_ (by first | omega | (simp only [vz_push, vz_set, drop_size]; omega) | (have h9 := KeepA.size_le (by assumption); (try simp only [vz_push, vz_set, drop_size] at *); omega)) _ | refine KeepA.drop ?_ (by first | omega | (simp only [vz_push, vz_set, drop_size]; omega) | (have h9 := KeepA.size_le (by assumption); (try simp only [vz_push, vz_set, drop_size] at *); omega)) | refine KeepA.trans ?_ (by assumption)), ⟨_, (gs_ne n1.1).trans g3⟩, ⟨_, (gs_ne n2.1).trans g4⟩, ⟨n1.1, hne2 p1 z1 n1.2⟩, ⟨n2.1, hne2 p2 z2 n2.2⟩⟩ fun c o hc h3 h4 => by
      have zc := VS.lt_of_get hc
      exact ⟨(gs_ne h3).trans (hbut.get ((gp_ne (by omega)).trans hc) h4), hne2 c zc h4⟩
    have e1 : ((l ++ [(x, 3)]).map eS).flatten = (l.map eS).flatten ++ eS (x, 3) := by simp
    rw [e1, List.length_append, List.length_singleton]
    exact hg2.set (hne2 b hbs hne) _
omit hk in
theorem Ad.set {s0 s : VS} {b p1 p2 c : Nat} {long : Int} {v : AV} {l : List (Int × Int)} (h : Ad s0 s b p1 p2 long v l) (h0 : s0.size ≤ c) (hb : c ≠ b) (h1 : c ≠ p1) (h2 : c ≠ p2) (hv : blkOf v ≠ some c) (o : VO) : Ad s0 (s.set c o) b p1 p2 long v l := by
  obtain ⟨e1, q1⟩ := h.h1
  obtain ⟨e2, q2⟩ := h.h2
  exact ⟨(gs_ne (fun e => hb e.symm)).trans h.hb, h.hb0, h.hg.set hv _, h.hne, h.hk0.set h0 _, ⟨e1, (gs_ne (fun e => h1 e.symm)).trans q1⟩, ⟨e2, (gs_ne (fun e => h2 e.symm)).trans q2⟩, h.n1, h.n2⟩
omit hk in
theorem escL_split {vs : List Int} {j : Nat} {v : Int} (h : vs[j]? = some v) : escL vs = escL (vs.take j) ++ (escV v ++ escL (vs.drop (j + 1))) := by
  have e : vs = vs.take j ++ (v :: vs.drop (j + 1)) := by
    conv => lhs; rw [← List.take_append_drop j vs]
    rw [List.drop_eq_getElem_cons (List.getElem?_eq_some_iff.1 h).1, (List.getElem?_eq_some_iff.1 h).2]
  conv => lhs; rw [e]
  simp [escL]
theorem escUnline_ok (hun : ∀ n, n < 16777216 → PC (XK k) 36 [tx (hexP n 6)] (.tup [.c (.int .i64 n), .c (.int .i64 0)])) (vs : List Int) (hv : vs.all right = true) (hn : vs.length ≤ 100) (long : Int) (hl : vs.length ≤ long) :
    PC (XK k) 13 [tx (escL vs), .c (.int .i64 long)] (LS (vs.map fun v => (v, 3))) := by
  refine PC_of fun st => ?_
  refine f13_in (hk _ (by decide) (by decide)) ?_
  have hlen := (escL_len hv).2
  have hby := escL_bytes hv
  (try (simp -implicitDefEqProofs (maxSteps := 2000000) (disch := first | omega | (simp only [vz_push, vz_set, drop_size]; first | done | omega)) only [push_cast, seval, f13N0, f13N1, f13N2, f13N3])) <;> (repeat' ((first | apply ga_dec | apply ga_ndec | apply cd_dec | apply cd_ndec | apply gd_dec | apply gd_ndec | apply ga_split | apply cd_split | apply gd_split) <;> intro hc <;> try (simp -implicitDefEqProofs (maxSteps := 2000000) (disch := first | omega | (simp only [vz_push, vz_set, drop_size]; first | done | omega)) only [push_cast, seval, f13N0, f13N1, f13N2, f13N3, hc])))
  refine f25_in (hk _ (by decide) (by decide)) ?_
  (try (simp -implicitDefEqProofs (maxSteps := 2000000) (disch := first | omega | (simp only [vz_push, vz_set, drop_size]; first | done | omega)) only [push_cast, seval, f25N0, f13N0, f13N1, f13N2, f13N3])) <;> (repeat' ((first | apply ga_dec | apply ga_ndec | apply cd_dec | apply cd_ndec | apply gd_dec | apply gd_ndec | apply ga_split | apply cd_split | apply gd_split) <;> intro hc <;> try (simp -implicitDefEqProofs (maxSteps := 2000000) (disch := first | omega | (simp only [vz_push, vz_set, drop_size]; first | done | omega)) only [push_cast, seval, f25N0, f13N0, f13N1, f13N2, f13N3, hc])))
  refine VW_iter (fun m ρ s' => ∃ (i j : Nat) (v : AV), m = (escL vs).length - i ∧ i ≤ (escL vs).length ∧ j ≤ vs.length ∧ i ≤ (escL (vs.take j)).length ∧ ρ.get 0 = tx (escL vs) ∧ ρ.get 5 = .ptr ⟨st.size, 0, none⟩ ∧ ρ.get 6 = .fn 34 [] [.ptr ⟨st.size + 1, 0, none⟩, .ptr ⟨st.size + 1 + 1, 0, none⟩] ∧ ρ.get 7 = .c (.int .i64 (escL (vs.take j)).length) ∧ ρ.get 14 = .ptr ⟨st.size + 1 + 1 + 1, 0, none⟩ ∧
      s'.get (st.size + 1 + 1 + 1) = some (.iter ⟨(escL vs).toArray⟩ i) ∧ Ad st s' st.size (st.size + 1) (st.size + 1 + 1) long v ((vs.take j).map fun v => (v, 3)) ∧ blkOf v ≠ some (st.size + 1 + 1 + 1)) (escL vs).length
    ⟨0, 0, _, rfl, Nat.zero_le _, Nat.zero_le _, Nat.zero_le _, by (((try simp -implicitDefEqProofs only [eA_tmp, eA_const, AEnv.get_set, ofA_get, List.getD_cons_zero, List.getD_cons_succ, ↓reduceIte, reduceCtorEq, Nat.reduceEqDiff]); try (first | (with_reducible assumption) | (with_reducible rfl) | (congr 2 <;> omega) | rfl))), by (((try simp -implicitDefEqProofs only [eA_tmp, eA_const, AEnv.get_set, ofA_get, List.getD_cons_zero, List.getD_cons_succ, ↓reduceIte, reduceCtorEq, Nat.reduceEqDiff]); try (first | (with_reducible assumption) | (with_reducible rfl) | (congr 2 <;> omega) | rfl))), by (((try simp -implicitDefEqProofs only [eA_tmp, eA_const, AEnv.get_set, ofA_get, List.getD_cons_zero, List.getD_cons_succ, ↓reduceIte, reduceCtorEq, Nat.reduceEqDiff]); try (first | (with_reducible assumption) | (with_reducible rfl) | (congr 2 <;> omega) | rfl))), by (((try simp -implicitDefEqProofs only [eA_tmp, eA_const, AEnv.get_set, ofA_get, List.getD_cons_zero, List.getD_cons_succ, ↓reduceIte, reduceCtorEq, Nat.reduceEqDiff]); try (first | (with_reducible assumption) | (with_reducible rfl) | (congr 2 <;> omega) | rfl))), by (((try simp -implicitDefEqProofs only [eA_tmp, eA_const, AEnv.get_set, ofA_get, List.getD_cons_zero, List.getD_cons_succ, ↓reduceIte, reduceCtorEq, Nat.reduceEqDiff]); try (first | (with_reducible assumption) | (with_reducible rfl) | (congr 2 <;> omega) | rfl))), by (simp -implicitDefEqProofs (disch := first | omega | (simp only [vz_push, vz_set, drop_size]; first | done | omega)) only [drop_ne, gp_ne, gp_eq, gs_ne, gs_eq]), ⟨by (simp -implicitDefEqProofs (disch := first | omega | (simp only [vz_push, vz_set, drop_size]; first | done | omega)) only [drop_ne, gp_ne, gp_eq, gs_ne, gs_eq]), Nat.le_refl _, .nil, by simp [blkOf], by (repeat first | assumption | exact KeepA.refl _ | apply KeepA.push | refine KeepA.set ?_ (by first | omega | (simp only [vz_push, vz_set, drop_size]; omega) | (have h9 := KeepA.size_le (by assumption); (try simp only [vz_push, vz_set, drop_size] at *); omega)) _ | refine KeepA.drop ?_ (by first | omega | (simp only [vz_push, vz_set, drop_size]; omega) | (have h9 := KeepA.size_le (by assumption); (try simp only [vz_push, vz_set, drop_size] at *); omega)) | refine KeepA.trans ?_ (by assumption)), ⟨57, by (simp -implicitDefEqProofs (disch := first | omega | (simp only [vz_push, vz_set, drop_size]; first | done | omega)) only [drop_ne, gp_ne, gp_eq, gs_ne, gs_eq])⟩, ⟨3, by (simp -implicitDefEqProofs (disch := first | omega | (simp only [vz_push, vz_set, drop_size]; first | done | omega)) only [drop_ne, gp_ne, gp_eq, gs_ne, gs_eq])⟩, ⟨by omega, by simp [blkOf]⟩, ⟨by omega, by simp [blkOf]⟩⟩, by simp [blkOf]⟩ ?_
  rintro m ρ s' ⟨i, j, v, rfl, hi, hj, hij, g0, g5, g6, g7, g14, j1, j2, j3⟩
  have hsz := VS.lt_of_get j1
  have hnl : (escL (vs.take j)).length ≤ (escL vs).length := by
    have e : escL vs = escL (vs.take j) ++ escL (vs.drop j) := by unfold escL; rw [← List.flatMap_append, List.take_append_drop]
    have := congrArg List.length e
    rw [List.length_append] at this
    omega
  by_cases c1 : i < (escL vs).length
  · obtain ⟨c, r, hd⟩ : ∃ c r, (escL vs).drop i = c :: r := by
      cases hq : (escL vs).drop i with
      | nil => have := List.drop_eq_nil_iff.1 hq; omega
      | cons a b => exact ⟨a, b, rfl⟩
    have hc := hby c (List.mem_of_mem_drop (by rw [hd]; exact List.mem_cons_self))
    have hdc := decode_at (escL vs) i c1
    rw [hd, oneL_asc' (by omega)] at hdc
    generalize (runeOf (c.toNat : Int)).toNat = r0 at hdc
    have hset := fun (o : VO) => j2.set (c := st.size + 1 + 1 + 1) (by omega) (by omega) (by omega) (by omega) j3 o
    by_cases c2 : i < (escL (vs.take j)).length
    · repeat' (first | ((first | apply ga_dec | apply ga_ndec | apply cd_dec | apply cd_ndec | apply gd_dec | apply gd_ndec | apply ga_split | apply cd_split | apply gd_split) <;> intro hc <;> (try (simp -implicitDefEqProofs (maxSteps := 2000000) (disch := first | omega | (simp only [vz_push, vz_set, drop_size]; first | done | omega)) only [push_cast, seval, f13N0, f13N1, f13N2, f13N3, hc, g0, g5, g6, g7, g14, j1, hdc])) <;> (try (exfalso; omega))) | (simp -implicitDefEqProofs (maxSteps := 2000000) (disch := first | omega | (simp only [vz_push, vz_set, drop_size]; first | done | omega)) only [push_cast, seval, f13N0, f13N1, f13N2, f13N3, g0, g5, g6, g7, g14, j1, hdc]))
      all_goals (try (exfalso; omega))
      exact ⟨_ - (i + 1), by omega, i + 1, j, v, rfl, by omega, hj, by omega, rfl, rfl, hset _, j3⟩
    · have hieq : i = (escL (vs.take j)).length := by omega
      have hjl : j < vs.length := by
        refine Nat.lt_of_not_le fun h => ?_
        rw [List.take_of_length_le h] at hieq
        omega
      have he := List.getElem?_eq_getElem hjl
      have hr : right vs[j] = true := List.all_eq_true.1 hv _ (List.getElem_mem hjl)
      generalize vs[j] = x at he hr
      have hsp := escL_split he
      have hdr : (escL vs).drop i = escV x ++ escL (vs.drop (j + 1)) := by rw [hsp, hieq]; exact List.drop_left' rfl
      have hsn : escL (vs.take (j + 1)) = escL (vs.take j) ++ escV x := by rw [take_snoc he, escL_snoc]
      have hxl := escV_len hr
      have hll := congrArg List.length hsp
      rw [List.length_append, List.length_append] at hll
      have w := escFirst_ok hk hun hr (escL (vs.drop (j + 1))) (by omega)
      rw [← hdr] at w
      have htk : List.drop i (List.take (escL vs).length (escL vs)) = List.drop i (escL vs) := by rw [List.take_length]
      rw [← hieq] at g7
      repeat' (first | ((first | apply ga_dec | apply ga_ndec | apply cd_dec | apply cd_ndec | apply gd_dec | apply gd_ndec | apply ga_split | apply cd_split | apply gd_split) <;> intro hc <;> (try (simp -implicitDefEqProofs (maxSteps := 2000000) (disch := first | omega | (simp only [vz_push, vz_set, drop_size]; first | done | omega)) only [push_cast, seval, f13N0, f13N1, f13N2, f13N3, hc, g0, g5, g6, g7, g14, j1, hdc, htk])) <;> (try (exfalso; omega))) | refine VC_pure (w) ?_ | (simp -implicitDefEqProofs (maxSteps := 2000000) (disch := first | omega | (simp only [vz_push, vz_set, drop_size]; first | done | omega)) only [push_cast, seval, f13N0, f13N1, f13N2, f13N3, g0, g5, g6, g7, g14, j1, hdc, htk]))
      all_goals (try (exfalso; omega))
      refine escAdd_ok hk (hset _) (by rw [List.length_map, List.length_take]; omega) x (fun h => ?_) ?_
      · rw [List.length_map, List.length_take] at h
        omega
      · intro _ v2 s2 q1 q2
        have q3 := q2 (st.size + 1 + 1 + 1) _ (gs_eq rfl hsz) (by omega) j3
        (try (simp -implicitDefEqProofs (maxSteps := 2000000) (disch := first | omega | (simp only [vz_push, vz_set, drop_size]; first | done | omega)) only [push_cast, seval, f13N0, f13N1, f13N2, f13N3, g0, g5, g6, g7, g14])) <;> (repeat' ((first | apply ga_dec | apply ga_ndec | apply cd_dec | apply cd_ndec | apply gd_dec | apply gd_ndec | apply ga_split | apply cd_split | apply gd_split) <;> intro hc <;> try (simp -implicitDefEqProofs (maxSteps := 2000000) (disch := first | omega | (simp only [vz_push, vz_set, drop_size]; first | done | omega)) only [push_cast, seval, f13N0, f13N1, f13N2, f13N3, hc, g0, g5, g6, g7, g14])))
        refine ⟨_ - (i + 1), by omega, i + 1, j + 1, v2, rfl, by omega, by omega, by rw [hsn, List.length_append]; omega, ?_, q3.1, ?_, q3.2⟩
        · rw [hsn, List.length_append]
          exact congrArg (fun z => AV.c (.int .i64 z)) (by omega)
        · rw [take_snoc he, List.map_append]
          exact q1
  · obtain rfl : i = (escL vs).length := by omega
    have hje : j = vs.length := by
      refine Classical.byContradiction fun hne => ?_
      have hjl : j < vs.length := by omega
      have he := List.getElem?_eq_getElem hjl
      have hr : right vs[j] = true := List.all_eq_true.1 hv _ (List.getElem_mem hjl)
      have hsp := congrArg List.length (escL_split he)
      rw [List.length_append, List.length_append] at hsp
      have := escV_len hr
      omega
    subst hje
    rw [List.take_length] at j2
    have hbg := j2.hb
    repeat' (first | ((first | apply ga_dec | apply ga_ndec | apply cd_dec | apply cd_ndec | apply gd_dec | apply gd_ndec | apply ga_split | apply cd_split | apply gd_split) <;> intro hc <;> (try (simp -implicitDefEqProofs (maxSteps := 2000000) (disch := first | omega | (simp only [vz_push, vz_set, drop_size]; first | done | omega)) only [push_cast, seval, f13N0, f13N1, f13N2, f13N3, hc, g0, g5, g6, g7, g14, j1, hbg, Nat.lt_irrefl])) <;> (try (exfalso; omega))) | (simp -implicitDefEqProofs (maxSteps := 2000000) (disch := first | omega | (simp only [vz_push, vz_set, drop_size]; first | done | omega)) only [push_cast, seval, f13N0, f13N1, f13N2, f13N3, g0, g5, g6, g7, g14, j1, hbg, Nat.lt_irrefl]))
    all_goals (try (exfalso; omega))
    exact j2.hg.outm j2.hk0 (fun _ => rfl) firm_eS (by omega)
end
end Go.Proofs.Yticllcglldbffaa.Ab
