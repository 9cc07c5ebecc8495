/- Trails: one call in both. -/
import Derived.Test.YtndedkpcfjnecaaO7
namespace Go.Proofs.Ytndedkpcfjnecaa.Ab
open Go.Proofs
set_option maxRecDepth 100000
set_option maxHeartbeats 4000000
set_option linter.unusedSimpArgs false
set_option linter.unusedVariables false
set_option linter.unnecessarySimpa false
set_option linter.unusedSectionVars false
theorem Ft.ofKeep {s s' : VS} {b : Nat} (h : KeepA s s') : Ft s s' b := ⟨h.1, fun c o hc _ _ => by
  have := h.2 c (VS.lt_of_get hc)
  exact ⟨by rw [this.1]; exact hc, this.2⟩⟩
/-- The four rows of does survive a call. -/
theorem Ft.at {s s' : VS} {b c e ep fr : Nat} {cs : List AV} {str : Bool} (h : Ft s s' b) (hc : s.get c = some (.own ⟨cs, e, ep, fr, str⟩)) (hb : c ≠ b) (he : e ≠ 118) : s'.get c = some (.own ⟨cs, e, ep, fr, str⟩) ∧ s'.ver c = s.ver c := h.2 c _ hc hb fun r hr => by
  cases hr
  exact he
theorem Trl.setx {s0 s : VS} {b x e ep fr : Nat} {cs : List AV} {str : Bool} {now : Ln} {W T : List Sp} {most : Int} (h : Trl s0 s b now W T most) (hx : s.get x = some (.own ⟨cs, e, ep, fr, str⟩)) (he : e ≠ 118) (hb : x ≠ b) (o : VO) : Trl s0 (s.set x o) b now W T most := by
  obtain ⟨vw, vt, h1, h2, h3, h4, h5⟩ := h
  have hn : ∀ {v : AV} {l : List Sp}, Gt eT s0 s 118 4 v l → blkOf v ≠ some x := fun g e1 => by
    obtain ⟨r, q1, q2⟩ := (g.blk e1).2.2
    rw [hx] at q1
    cases q1
    exact he q2
  exact ⟨vw, vt, by rw [gs_ne (Ne.symm hb)]; exact h1, h2, h3.set (hn h3) o, h4.set (hn h4) o, h5⟩
section
variable {k : Nat → List Value → Option Value} (hk : ∀ f, f ≠ 69 → Open k f)
include hk
theorem does_back0 {s0 s : VS} {b : Nat} {now : Ln} {W T : List Sp} {L M : List Ln} {most : Int} {xs : List (Int × Int)} {xa : Int} {join : Bool} (h : Trl s0 s b now [] T most) (hs0 : s0.size ≤ s.size) {K : AV → VS → Prop}
    (hK : ∀ s', Trl s0 s' b now [] T most → Ft s s' b → K (.tup [.agg (eTT now [] M), .c (.bool true)]) s') : VC (XK k) 38 [.ptr ⟨b, 0, none⟩, .agg (eTT now [] M), .agg [.c (.int .i64 1), LS xs, .c (.int .i64 xa), .c (.bool join)], .c (.int .i64 most)] s K := by
  refine f38_in (hk _ (by decide)) ?_
  have hh := h
  obtain ⟨vw, vt, h1, h2, h3, h4, h5⟩ := h
  have z1 := VS.lt_of_get h1
  repeat' (first | ((first | apply ga_dec | apply ga_ndec | apply cd_dec | apply cd_ndec | apply gd_dec | apply gd_ndec | apply ga_split | apply cd_split | apply gd_split) <;> intro hc <;> (try (simp -implicitDefEqProofs (maxSteps := 2000000) (disch := first | omega | (simp only [vz_push, vz_set, drop_size]; first | done | omega)) only [push_cast, seval, f38N0, f38N1, f38N2, hc, z1, eTT])) <;> (try (exfalso; omega))) | refine VC_pure (rback0_ok hk now M) ?_ | (simp -implicitDefEqProofs (maxSteps := 2000000) (disch := first | omega | (simp only [vz_push, vz_set, drop_size]; first | done | omega)) only [push_cast, seval, f38N0, f38N1, f38N2, z1, eTT]))
  refine back0_ok hk (s0 := s0) (T := T) (now := now) (most := most) (hh.keep (by (repeat first | assumption | exact KeepA.refl _ | apply KeepA.push | refine KeepA.set ?_ (by first | omega | (simp only [vz_push, vz_set, drop_size]; omega) | (have h9 := KeepA.size_le (by assumption); (try simp only [vz_push, vz_set, drop_size] at *); omega)) _ | refine KeepA.drop ?_ (by first | omega | (simp only [vz_push, vz_set, drop_size]; omega) | (have h9 := KeepA.size_le (by assumption); (try simp only [vz_push, vz_set, drop_size] at *); omega)) | refine KeepA.trans ?_ (by assumption)))) ?_

  (try (simp -implicitDefEqProofs (maxSteps := 2000000) (disch := first | omega | (simp only [vz_push, vz_set, drop_size]; first | done | omega)) only [push_cast, seval, f38N0, f38N1, f38N2, z1, rigA])) <;> (repeat' ((first | apply ga_dec | apply ga_ndec | apply cd_dec | apply cd_ndec | apply gd_dec | apply gd_ndec | apply ga_split | apply cd_split | apply gd_split) <;> intro hc <;> try (simp -implicitDefEqProofs (maxSteps := 2000000) (disch := first | omega | (simp only [vz_push, vz_set, drop_size]; first | done | omega)) only [push_cast, seval, f38N0, f38N1, f38N2, hc, z1, rigA])))
  exact hK _ (hh.keep (by (repeat first | assumption | exact KeepA.refl _ | apply KeepA.push | refine KeepA.set ?_ (by first | omega | (simp only [vz_push, vz_set, drop_size]; omega) | (have h9 := KeepA.size_le (by assumption); (try simp only [vz_push, vz_set, drop_size] at *); omega)) _ | refine KeepA.drop ?_ (by first | omega | (simp only [vz_push, vz_set, drop_size]; omega) | (have h9 := KeepA.size_le (by assumption); (try simp only [vz_push, vz_set, drop_size] at *); omega)) | refine KeepA.trans ?_ (by assumption)))) (Ft.ofKeep (by (repeat first | assumption | exact KeepA.refl _ | apply KeepA.push | refine KeepA.set ?_ (by first | omega | (simp only [vz_push, vz_set, drop_size]; omega) | (have h9 := KeepA.size_le (by assumption); (try simp only [vz_push, vz_set, drop_size] at *); omega)) _ | refine KeepA.drop ?_ (by first | omega | (simp only [vz_push, vz_set, drop_size]; omega) | (have h9 := KeepA.size_le (by assumption); (try simp only [vz_push, vz_set, drop_size] at *); omega)) | refine KeepA.trans ?_ (by assumption))))
theorem does_forth0 {s0 s : VS} {b : Nat} {now : Ln} {W T : List Sp} {L M : List Ln} {most : Int} {kd : Int} {xs : List (Int × Int)} {xa : Int} {join : Bool} (k0 : ¬ kd = 0) (k1 : ¬ kd = 1) (h : Trl s0 s b now W [] most) (hs0 : s0.size ≤ s.size) {K : AV → VS → Prop}
    (hK : ∀ s', Trl s0 s' b now W [] most → Ft s s' b → K (.tup [.agg (eTT now L []), .c (.bool true)]) s') : VC (XK k) 38 [.ptr ⟨b, 0, none⟩, .agg (eTT now L []), .agg [.c (.int .i64 kd), LS xs, .c (.int .i64 xa), .c (.bool join)], .c (.int .i64 most)] s K := by
  refine f38_in (hk _ (by decide)) ?_
  have hh := h
  obtain ⟨vw, vt, h1, h2, h3, h4, h5⟩ := h
  have z1 := VS.lt_of_get h1
  repeat' (first | ((first | apply ga_dec | apply ga_ndec | apply cd_dec | apply cd_ndec | apply gd_dec | apply gd_ndec | apply ga_split | apply cd_split | apply gd_split) <;> intro hc <;> (try (simp -implicitDefEqProofs (maxSteps := 2000000) (disch := first | omega | (simp only [vz_push, vz_set, drop_size]; first | done | omega)) only [push_cast, seval, f38N0, f38N1, f38N2, hc, z1, eTT, k0, k1])) <;> (try (exfalso; omega))) | refine VC_pure (rforth0_ok hk now L) ?_ | (simp -implicitDefEqProofs (maxSteps := 2000000) (disch := first | omega | (simp only [vz_push, vz_set, drop_size]; first | done | omega)) only [push_cast, seval, f38N0, f38N1, f38N2, z1, eTT, k0, k1]))
  refine forth0_ok hk (s0 := s0) (W := W) (now := now) (most := most) (hh.keep (by (repeat first | assumption | exact KeepA.refl _ | apply KeepA.push | refine KeepA.set ?_ (by first | omega | (simp only [vz_push, vz_set, drop_size]; omega) | (have h9 := KeepA.size_le (by assumption); (try simp only [vz_push, vz_set, drop_size] at *); omega)) _ | refine KeepA.drop ?_ (by first | omega | (simp only [vz_push, vz_set, drop_size]; omega) | (have h9 := KeepA.size_le (by assumption); (try simp only [vz_push, vz_set, drop_size] at *); omega)) | refine KeepA.trans ?_ (by assumption)))) ?_
  (try (simp -implicitDefEqProofs (maxSteps := 2000000) (disch := first | omega | (simp only [vz_push, vz_set, drop_size]; first | done | omega)) only [push_cast, seval, f38N0, f38N1, f38N2, z1, k0, k1, rigA])) <;> (repeat' ((first | apply ga_dec | apply ga_ndec | apply cd_dec | apply cd_ndec | apply gd_dec | apply gd_ndec | apply ga_split | apply cd_split | apply gd_split) <;> intro hc <;> try (simp -implicitDefEqProofs (maxSteps := 2000000) (disch := first | omega | (simp only [vz_push, vz_set, drop_size]; first | done | omega)) only [push_cast, seval, f38N0, f38N1, f38N2, hc, z1, k0, k1, rigA])))
  exact hK _ (hh.keep (by (repeat first | assumption | exact KeepA.refl _ | apply KeepA.push | refine KeepA.set ?_ (by first | omega | (simp only [vz_push, vz_set, drop_size]; omega) | (have h9 := KeepA.size_le (by assumption); (try simp only [vz_push, vz_set, drop_size] at *); omega)) _ | refine KeepA.drop ?_ (by first | omega | (simp only [vz_push, vz_set, drop_size]; omega) | (have h9 := KeepA.size_le (by assumption); (try simp only [vz_push, vz_set, drop_size] at *); omega)) | refine KeepA.trans ?_ (by assumption)))) (Ft.ofKeep (by (repeat first | assumption | exact KeepA.refl _ | apply KeepA.push | refine KeepA.set ?_ (by first | omega | (simp only [vz_push, vz_set, drop_size]; omega) | (have h9 := KeepA.size_le (by assumption); (try simp only [vz_push, vz_set, drop_size] at *); omega)) _ | refine KeepA.drop ?_ (by first | omega | (simp only [vz_push, vz_set, drop_size]; omega) | (have h9 := KeepA.size_le (by assumption); (try simp only [vz_push, vz_set, drop_size] at *); omega)) | refine KeepA.trans ?_ (by assumption))))
theorem does_back {s0 s : VS} {b : Nat} {now y : Ln} {W T : List Sp} {L M : List Ln} {st : Sp} {most : Int} {xs : List (Int × Int)} {xa : Int} {join : Bool} (h : Trl s0 s b now (W ++ [st]) T most) (hs0 : s0.size ≤ s.size)
    (p : Nat) (hp : st.1 = p) (hb : p + st.2.2.1.length ≤ now.1.length) (hl : now.1.length < 100000) (hg : st.2.1.length < 100000) (hW : W.length < 10000) (hT : T.length < 10000) (hM : M.length < 10000) (hL : L.length < 10000) {K : AV → VS → Prop}
    (hK : ∀ s', Trl s0 s' b (appS now.1 p st.2.2.1.length st.2.1, st.2.2.2) W (T ++ [(st.1, st.2.1, st.2.2.1, now.2)]) most → Ft s s' b → K (.tup [.agg (eTT y L (M ++ [now])), .c (.bool true)]) s') : VC (XK k) 38 [.ptr ⟨b, 0, none⟩, .agg (eTT now (L ++ [y]) M), .agg [.c (.int .i64 1), LS xs, .c (.int .i64 xa), .c (.bool join)], .c (.int .i64 most)] s K := by
  refine f38_in (hk _ (by decide)) ?_
  have hh := h
  obtain ⟨vw, vt, h1, h2, h3, h4, h5⟩ := h
  have z1 := VS.lt_of_get h1
  repeat' (first | ((first | apply ga_dec | apply ga_ndec | apply cd_dec | apply cd_ndec | apply gd_dec | apply gd_ndec | apply ga_split | apply cd_split | apply gd_split) <;> intro hc <;> (try (simp -implicitDefEqProofs (maxSteps := 2000000) (disch := first | omega | (simp only [vz_push, vz_set, drop_size]; first | done | omega)) only [push_cast, seval, f38N0, f38N1, f38N2, hc, z1, eTT])) <;> (try (exfalso; omega))) | refine VC_pure (rback_ok hk now y L M hM hL) ?_ | (simp -implicitDefEqProofs (maxSteps := 2000000) (disch := first | omega | (simp only [vz_push, vz_set, drop_size]; first | done | omega)) only [push_cast, seval, f38N0, f38N1, f38N2, z1, eTT]))
  refine back_ok hk (s0 := s0) (W := W) (T := T) (now := now) (st := st) (most := most) (hh.keep (by (repeat first | assumption | exact KeepA.refl _ | apply KeepA.push | refine KeepA.set ?_ (by first | omega | (simp only [vz_push, vz_set, drop_size]; omega) | (have h9 := KeepA.size_le (by assumption); (try simp only [vz_push, vz_set, drop_size] at *); omega)) _ | refine KeepA.drop ?_ (by first | omega | (simp only [vz_push, vz_set, drop_size]; omega) | (have h9 := KeepA.size_le (by assumption); (try simp only [vz_push, vz_set, drop_size] at *); omega)) | refine KeepA.trans ?_ (by assumption)))) p hp hb hl hg hW hT ?_
  intro s1 r1 f1
  have f2 := f1.1
  simp only [vz_push, vz_set] at f2
  have n1 := f1.at (c := s.size + 1 + 1 + 1) (cs := [LS y.1, .c (.int .i64 y.2), LNs L, LNs (M ++ [now])]) (e := 68) (ep := 0) (fr := 0) (str := false) (by (simp -implicitDefEqProofs (disch := first | omega | (simp only [vz_push, vz_set, drop_size]; first | done | omega)) only [drop_ne, gp_ne, gp_eq, gs_ne, gs_eq])) (by omega) (by decide)
  have n2 := f1.at (c := s.size + 1 + 1) (cs := [.c (.slice none 0 0), .c (.int .i64 0), .c (.slice none 0 0), .c (.slice none 0 0)]) (e := 68) (ep := 0) (fr := 0) (str := false) (by (simp -implicitDefEqProofs (disch := first | omega | (simp only [vz_push, vz_set, drop_size]; first | done | omega)) only [drop_ne, gp_ne, gp_eq, gs_ne, gs_eq])) (by omega) (by decide)
  have v1 := n1.2
  have v2 := n2.2
  have g1 := n1.1
  have g2 := n2.1
  (try (simp -implicitDefEqProofs (maxSteps := 2000000) (disch := first | omega | (simp only [vz_push, vz_set, drop_size]; first | done | omega)) only [push_cast, seval, f38N0, f38N1, f38N2, g1, g2, v1, v2, z1, rigA])) <;> (repeat' ((first | apply ga_dec | apply ga_ndec | apply cd_dec | apply cd_ndec | apply gd_dec | apply gd_ndec | apply ga_split | apply cd_split | apply gd_split) <;> intro hc <;> try (simp -implicitDefEqProofs (maxSteps := 2000000) (disch := first | omega | (simp only [vz_push, vz_set, drop_size]; first | done | omega)) only [push_cast, seval, f38N0, f38N1, f38N2, hc, g1, g2, v1, v2, z1, rigA])))
  exact hK _ (r1.setx g2 (by decide) (by omega) _) (((Ft.ofKeep (by (repeat first | assumption | exact KeepA.refl _ | apply KeepA.push | refine KeepA.set ?_ (by first | omega | (simp only [vz_push, vz_set, drop_size]; omega) | (have h9 := KeepA.size_le (by assumption); (try simp only [vz_push, vz_set, drop_size] at *); omega)) _ | refine KeepA.drop ?_ (by first | omega | (simp only [vz_push, vz_set, drop_size]; omega) | (have h9 := KeepA.size_le (by assumption); (try simp only [vz_push, vz_set, drop_size] at *); omega)) | refine KeepA.trans ?_ (by assumption)))).trans f1).setn (by omega) _)
theorem does_forth {s0 s : VS} {b : Nat} {now y : Ln} {W T : List Sp} {L M : List Ln} {st : Sp} {most kd : Int} {xs : List (Int × Int)} {xa : Int} {join : Bool} (k0 : ¬ kd = 0) (k1 : ¬ kd = 1) (h : Trl s0 s b now W (T ++ [st]) most) (hs0 : s0.size ≤ s.size)
    (p : Nat) (hp : st.1 = p) (hb : p + st.2.1.length ≤ now.1.length) (hl : now.1.length < 100000) (hg : st.2.2.1.length < 100000) (hW : W.length < 10000) (hT : T.length < 10000) (hM : M.length < 10000) (hL : L.length < 10000) {K : AV → VS → Prop}
    (hK : ∀ s', Trl s0 s' b (appS now.1 p st.2.1.length st.2.2.1, st.2.2.2) (W ++ [(st.1, st.2.1, st.2.2.1, now.2)]) T most → Ft s s' b → K (.tup [.agg (eTT y (L ++ [now]) M), .c (.bool true)]) s') : VC (XK k) 38 [.ptr ⟨b, 0, none⟩, .agg (eTT now L (M ++ [y])), .agg [.c (.int .i64 kd), LS xs, .c (.int .i64 xa), .c (.bool join)], .c (.int .i64 most)] s K := by
  refine f38_in (hk _ (by decide)) ?_
  have hh := h
  obtain ⟨vw, vt, h1, h2, h3, h4, h5⟩ := h
  have z1 := VS.lt_of_get h1
  repeat' (first | ((first | apply ga_dec | apply ga_ndec | apply cd_dec | apply cd_ndec | apply gd_dec | apply gd_ndec | apply ga_split | apply cd_split | apply gd_split) <;> intro hc <;> (try (simp -implicitDefEqProofs (maxSteps := 2000000) (disch := first | omega | (simp only [vz_push, vz_set, drop_size]; first | done | omega)) only [push_cast, seval, f38N0, f38N1, f38N2, hc, z1, eTT, k0, k1])) <;> (try (exfalso; omega))) | refine VC_pure (rforth_ok hk now y L M hL hM) ?_ | (simp -implicitDefEqProofs (maxSteps := 2000000) (disch := first | omega | (simp only [vz_push, vz_set, drop_size]; first | done | omega)) only [push_cast, seval, f38N0, f38N1, f38N2, z1, eTT, k0, k1]))
  refine forth_ok hk (s0 := s0) (W := W) (T := T) (now := now) (st := st) (most := most) (hh.keep (by (repeat first | assumption | exact KeepA.refl _ | apply KeepA.push | refine KeepA.set ?_ (by first | omega | (simp only [vz_push, vz_set, drop_size]; omega) | (have h9 := KeepA.size_le (by assumption); (try simp only [vz_push, vz_set, drop_size] at *); omega)) _ | refine KeepA.drop ?_ (by first | omega | (simp only [vz_push, vz_set, drop_size]; omega) | (have h9 := KeepA.size_le (by assumption); (try simp only [vz_push, vz_set, drop_size] at *); omega)) | refine KeepA.trans ?_ (by assumption)))) p hp hb hl hg hW hT ?_
  intro s1 r1 f1
  have f2 := f1.1
  simp only [vz_push, vz_set] at f2
  have n1 := f1.at (c := s.size + 1 + 1 + 1) (cs := [LS y.1, .c (.int .i64 y.2), LNs (L ++ [now]), LNs M]) (e := 68) (ep := 0) (fr := 0) (str := false) (by (simp -implicitDefEqProofs (disch := first | omega | (simp only [vz_push, vz_set, drop_size]; first | done | omega)) only [drop_ne, gp_ne, gp_eq, gs_ne, gs_eq])) (by omega) (by decide)
  have n2 := f1.at (c := s.size + 1 + 1) (cs := [.c (.slice none 0 0), .c (.int .i64 0), .c (.slice none 0 0), .c (.slice none 0 0)]) (e := 68) (ep := 0) (fr := 0) (str := false) (by (simp -implicitDefEqProofs (disch := first | omega | (simp only [vz_push, vz_set, drop_size]; first | done | omega)) only [drop_ne, gp_ne, gp_eq, gs_ne, gs_eq])) (by omega) (by decide)
  have v1 := n1.2
  have v2 := n2.2
  have g1 := n1.1
  have g2 := n2.1
  (try (simp -implicitDefEqProofs (maxSteps := 2000000) (disch := first | omega | (simp only [vz_push, vz_set, drop_size]; first | done | omega)) only [push_cast, seval, f38N0, f38N1, f38N2, g1, g2, v1, v2, z1, k0, k1, rigA])) <;> (repeat' ((first | apply ga_dec | apply ga_ndec | apply cd_dec | apply cd_ndec | apply gd_dec | apply gd_ndec | apply ga_split | apply cd_split | apply gd_split) <;> intro hc <;> try (simp -implicitDefEqProofs (maxSteps := 2000000) (disch := first | omega | (simp only [vz_push, vz_set, drop_size]; first | done | omega)) only [push_cast, seval, f38N0, f38N1, f38N2, hc, g1, g2, v1, v2, z1, k0, k1, rigA])))
  exact hK _ (r1.setx g2 (by decide) (by omega) _) (((Ft.ofKeep (by (repeat first | assumption | exact KeepA.refl _ | apply KeepA.push | refine KeepA.set ?_ (by first | omega | (simp only [vz_push, vz_set, drop_size]; omega) | (have h9 := KeepA.size_le (by assumption); (try simp only [vz_push, vz_set, drop_size] at *); omega)) _ | refine KeepA.drop ?_ (by first | omega | (simp only [vz_push, vz_set, drop_size]; omega) | (have h9 := KeepA.size_le (by assumption); (try simp only [vz_push, vz_set, drop_size] at *); omega)) | refine KeepA.trans ?_ (by assumption)))).trans f1).setn (by omega) _)
theorem does_bad {s0 s : VS} {b : Nat} {now x : Ln} {W T : List Sp} {L M : List Ln} {most : Int} {old : Ln} {W1 : List Sp} {join : Bool} (h : Trl s0 s b now W T most) (hJ : JoinR now W join old W1) (hnl : now.1.length < 40000) (hxl : x.1.length < 100000) (hW : W.length < 10000) (hs0 : s0.size ≤ s.size) (hm : mayL x = false) {K : AV → VS → Prop}
    (hK : ∀ s', Trl s0 s' b now W T most → Ft s s' b → K (.tup [.agg (eTT now L M), .c (.bool true)]) s') : VC (XK k) 38 [.ptr ⟨b, 0, none⟩, .agg (eTT now L M), .agg [.c (.int .i64 0), LS x.1, .c (.int .i64 x.2), .c (.bool join)], .c (.int .i64 most)] s K := by
  refine f38_in (hk _ (by decide)) ?_
  have hh := h
  obtain ⟨vw, vt, h1, h2, h3, h4, h5⟩ := h
  have z1 := VS.lt_of_get h1
  have w1 := may_ok hk x (by omega)
  simp only [eL, hm] at w1
  repeat' (first | ((first | apply ga_dec | apply ga_ndec | apply cd_dec | apply cd_ndec | apply gd_dec | apply gd_ndec | apply ga_split | apply cd_split | apply gd_split) <;> intro hc <;> (try (simp -implicitDefEqProofs (maxSteps := 2000000) (disch := first | omega | (simp only [vz_push, vz_set, drop_size]; first | done | omega)) only [push_cast, seval, f38N0, f38N1, f38N2, hc, z1, eTT])) <;> (try (exfalso; omega))) | (simp -implicitDefEqProofs (maxSteps := 2000000) (disch := first | omega | (simp only [vz_push, vz_set, drop_size]; first | done | omega)) only [push_cast, seval, f38N0, f38N1, f38N2, z1, eTT]))
  refine set_ok hk (s0 := s0) (W := W) (T := T) (W1 := W1) (now := now) (x := x) (old := old) (most := most) (hh.keep (by (repeat first | assumption | exact KeepA.refl _ | apply KeepA.push | refine KeepA.set ?_ (by first | omega | (simp only [vz_push, vz_set, drop_size]; omega) | (have h9 := KeepA.size_le (by assumption); (try simp only [vz_push, vz_set, drop_size] at *); omega)) _ | refine KeepA.drop ?_ (by first | omega | (simp only [vz_push, vz_set, drop_size]; omega) | (have h9 := KeepA.size_le (by assumption); (try simp only [vz_push, vz_set, drop_size] at *); omega)) | refine KeepA.trans ?_ (by assumption)))) hJ hnl hxl hW (by simp only [vz_push, vz_set]; omega) (fun _ s1 r1 f1 => ?_) (fun c => absurd c (by rw [hm]; simp)) (fun c => absurd c (by rw [hm]; simp))
  have f2 := f1.1
  simp only [vz_push, vz_set] at f2
  have n1 := f1.at (c := s.size) (cs := eTT now L M) (e := 68) (ep := 0) (fr := 0) (str := false) (by simp only [eTT]; (simp -implicitDefEqProofs (disch := first | omega | (simp only [vz_push, vz_set, drop_size]; first | done | omega)) only [drop_ne, gp_ne, gp_eq, gs_ne, gs_eq])) (by omega) (by decide)
  have n2 := f1.at (c := s.size + 1 + 1) (cs := [.c (.slice none 0 0), .c (.int .i64 0), .c (.slice none 0 0), .c (.slice none 0 0)]) (e := 68) (ep := 0) (fr := 0) (str := false) (by (simp -implicitDefEqProofs (disch := first | omega | (simp only [vz_push, vz_set, drop_size]; first | done | omega)) only [drop_ne, gp_ne, gp_eq, gs_ne, gs_eq])) (by omega) (by decide)
  have n3 := f1.at (c := s.size + 1) (cs := [.c (.int .i64 0), LS x.1, .c (.int .i64 x.2), .c (.bool join)]) (e := 70) (ep := 0) (fr := 0) (str := false) (by (simp -implicitDefEqProofs (disch := first | omega | (simp only [vz_push, vz_set, drop_size]; first | done | omega)) only [drop_ne, gp_ne, gp_eq, gs_ne, gs_eq])) (by omega) (by decide)
  have g1 := n1.1
  have g2 := n2.1
  have g3 := n3.1
  simp only [eTT] at g1
  repeat' (first | ((first | apply ga_dec | apply ga_ndec | apply cd_dec | apply cd_ndec | apply gd_dec | apply gd_ndec | apply ga_split | apply cd_split | apply gd_split) <;> intro hc <;> (try (simp -implicitDefEqProofs (maxSteps := 2000000) (disch := first | omega | (simp only [vz_push, vz_set, drop_size]; first | done | omega)) only [push_cast, seval, f38N0, f38N1, f38N2, hc, g1, g2, g3, z1, rigA])) <;> (try (exfalso; omega))) | refine VC_pure (w1) ?_ | (simp -implicitDefEqProofs (maxSteps := 2000000) (disch := first | omega | (simp only [vz_push, vz_set, drop_size]; first | done | omega)) only [push_cast, seval, f38N0, f38N1, f38N2, g1, g2, g3, z1, rigA]))
  exact hK _ (r1.setx g2 (by decide) (by omega) _) (((Ft.ofKeep (by (repeat first | assumption | exact KeepA.refl _ | apply KeepA.push | refine KeepA.set ?_ (by first | omega | (simp only [vz_push, vz_set, drop_size]; omega) | (have h9 := KeepA.size_le (by assumption); (try simp only [vz_push, vz_set, drop_size] at *); omega)) _ | refine KeepA.drop ?_ (by first | omega | (simp only [vz_push, vz_set, drop_size]; omega) | (have h9 := KeepA.size_le (by assumption); (try simp only [vz_push, vz_set, drop_size] at *); omega)) | refine KeepA.trans ?_ (by assumption)))).trans f1).setn (by omega) _)
theorem does_same {s0 s : VS} {b : Nat} {now x : Ln} {W T : List Sp} {L M : List Ln} {most : Int} {old : Ln} {W1 : List Sp} {join : Bool} (h : Trl s0 s b now W T most) (hJ : JoinR now W join old W1) (hnl : now.1.length < 40000) (hxl : x.1.length < 100000) (hW : W.length < 10000) (hL : L.length < 10000) (hs0 : s0.size ≤ s.size) (hm : mayL x = true) (he : x.1 = now.1) {K : AV → VS → Prop}
    (hK : ∀ s', Trl s0 s' b (now.1, x.2) W T most → Ft s s' b → K (.tup [.agg (eTT x L M), .c (.bool true)]) s') : VC (XK k) 38 [.ptr ⟨b, 0, none⟩, .agg (eTT now L M), .agg [.c (.int .i64 0), LS x.1, .c (.int .i64 x.2), .c (.bool join)], .c (.int .i64 most)] s K := by
  refine f38_in (hk _ (by decide)) ?_
  have hh := h
  obtain ⟨vw, vt, h1, h2, h3, h4, h5⟩ := h
  have z1 := VS.lt_of_get h1
  have w1 := may_ok hk x (by omega)
  simp only [eL, hm] at w1
  have w2 := rset_ok hk now x L M join most hxl hL
  rw [if_pos he] at w2
  simp only [eTT, eL] at w2
  repeat' (first | ((first | apply ga_dec | apply ga_ndec | apply cd_dec | apply cd_ndec | apply gd_dec | apply gd_ndec | apply ga_split | apply cd_split | apply gd_split) <;> intro hc <;> (try (simp -implicitDefEqProofs (maxSteps := 2000000) (disch := first | omega | (simp only [vz_push, vz_set, drop_size]; first | done | omega)) only [push_cast, seval, f38N0, f38N1, f38N2, hc, z1, eTT])) <;> (try (exfalso; omega))) | (simp -implicitDefEqProofs (maxSteps := 2000000) (disch := first | omega | (simp only [vz_push, vz_set, drop_size]; first | done | omega)) only [push_cast, seval, f38N0, f38N1, f38N2, z1, eTT]))
  refine set_ok hk (s0 := s0) (W := W) (T := T) (W1 := W1) (now := now) (x := x) (old := old) (most := most) (hh.keep (by (repeat first | assumption | exact KeepA.refl _ | apply KeepA.push | refine KeepA.set ?_ (by first | omega | (simp only [vz_push, vz_set, drop_size]; omega) | (have h9 := KeepA.size_le (by assumption); (try simp only [vz_push, vz_set, drop_size] at *); omega)) _ | refine KeepA.drop ?_ (by first | omega | (simp only [vz_push, vz_set, drop_size]; omega) | (have h9 := KeepA.size_le (by assumption); (try simp only [vz_push, vz_set, drop_size] at *); omega)) | refine KeepA.trans ?_ (by assumption)))) hJ hnl hxl hW (by simp only [vz_push, vz_set]; omega) (fun c => absurd c (by rw [hm]; simp)) (fun _ _ s1 r1 f1 => ?_) (fun _ c => absurd he c)
  have f2 := f1.1
  simp only [vz_push, vz_set] at f2
  have n1 := f1.at (c := s.size) (cs := eTT now L M) (e := 68) (ep := 0) (fr := 0) (str := false) (by simp only [eTT]; (simp -implicitDefEqProofs (disch := first | omega | (simp only [vz_push, vz_set, drop_size]; first | done | omega)) only [drop_ne, gp_ne, gp_eq, gs_ne, gs_eq])) (by omega) (by decide)
  have n2 := f1.at (c := s.size + 1 + 1) (cs := [.c (.slice none 0 0), .c (.int .i64 0), .c (.slice none 0 0), .c (.slice none 0 0)]) (e := 68) (ep := 0) (fr := 0) (str := false) (by (simp -implicitDefEqProofs (disch := first | omega | (simp only [vz_push, vz_set, drop_size]; first | done | omega)) only [drop_ne, gp_ne, gp_eq, gs_ne, gs_eq])) (by omega) (by decide)
  have n3 := f1.at (c := s.size + 1) (cs := [.c (.int .i64 0), LS x.1, .c (.int .i64 x.2), .c (.bool join)]) (e := 70) (ep := 0) (fr := 0) (str := false) (by (simp -implicitDefEqProofs (disch := first | omega | (simp only [vz_push, vz_set, drop_size]; first | done | omega)) only [drop_ne, gp_ne, gp_eq, gs_ne, gs_eq])) (by omega) (by decide)
  have g1 := n1.1
  have g2 := n2.1
  have g3 := n3.1
  simp only [eTT] at g1
  repeat' (first | ((first | apply ga_dec | apply ga_ndec | apply cd_dec | apply cd_ndec | apply gd_dec | apply gd_ndec | apply ga_split | apply cd_split | apply gd_split) <;> intro hc <;> (try (simp -implicitDefEqProofs (maxSteps := 2000000) (disch := first | omega | (simp only [vz_push, vz_set, drop_size]; first | done | omega)) only [push_cast, seval, f38N0, f38N1, f38N2, hc, g1, g2, g3, z1, rigA])) <;> (try (exfalso; omega))) | refine VC_pure (w1) ?_ | refine VC_pure (w2) ?_ | (simp -implicitDefEqProofs (maxSteps := 2000000) (disch := first | omega | (simp only [vz_push, vz_set, drop_size]; first | done | omega)) only [push_cast, seval, f38N0, f38N1, f38N2, g1, g2, g3, z1, rigA]))
  exact hK _ (r1.setx g2 (by decide) (by omega) _) (((Ft.ofKeep (by (repeat first | assumption | exact KeepA.refl _ | apply KeepA.push | refine KeepA.set ?_ (by first | omega | (simp only [vz_push, vz_set, drop_size]; omega) | (have h9 := KeepA.size_le (by assumption); (try simp only [vz_push, vz_set, drop_size] at *); omega)) _ | refine KeepA.drop ?_ (by first | omega | (simp only [vz_push, vz_set, drop_size]; omega) | (have h9 := KeepA.size_le (by assumption); (try simp only [vz_push, vz_set, drop_size] at *); omega)) | refine KeepA.trans ?_ (by assumption)))).trans f1).setn (by omega) _)
theorem does_set {s0 s : VS} {b : Nat} {now x : Ln} {W T : List Sp} {L M : List Ln} {most : Int} {old : Ln} {W1 : List Sp} {join : Bool} (h : Trl s0 s b now W T most) (hJ : JoinR now W join old W1) (hnl : now.1.length < 40000) (hxl : x.1.length < 100000) (hW : W.length < 10000) (hL : L.length < 10000) (hs0 : s0.size ≤ s.size) (hm : mayL x = true) (he : x.1 ≠ now.1) {K : AV → VS → Prop}
    (hK : ∀ s', Trl s0 s' b x (capW (W1 ++ [btw old x]) most) [] most → Ft s s' b → K (.tup [.agg (eTT x (capL (if join = true ∧ L ≠ [] then L else L ++ [now]) most) []), .c (.bool true)]) s') : VC (XK k) 38 [.ptr ⟨b, 0, none⟩, .agg (eTT now L M), .agg [.c (.int .i64 0), LS x.1, .c (.int .i64 x.2), .c (.bool join)], .c (.int .i64 most)] s K := by
  refine f38_in (hk _ (by decide)) ?_
  have hh := h
  obtain ⟨vw, vt, h1, h2, h3, h4, h5⟩ := h
  have z1 := VS.lt_of_get h1
  have w1 := may_ok hk x (by omega)
  simp only [eL, hm] at w1
  have w2 := rset_ok hk now x L M join most hxl hL
  rw [if_neg he] at w2
  simp only [eTT, eL] at w2
  repeat' (first | ((first | apply ga_dec | apply ga_ndec | apply cd_dec | apply cd_ndec | apply gd_dec | apply gd_ndec | apply ga_split | apply cd_split | apply gd_split) <;> intro hc <;> (try (simp -implicitDefEqProofs (maxSteps := 2000000) (disch := first | omega | (simp only [vz_push, vz_set, drop_size]; first | done | omega)) only [push_cast, seval, f38N0, f38N1, f38N2, hc, z1, eTT])) <;> (try (exfalso; omega))) | (simp -implicitDefEqProofs (maxSteps := 2000000) (disch := first | omega | (simp only [vz_push, vz_set, drop_size]; first | done | omega)) only [push_cast, seval, f38N0, f38N1, f38N2, z1, eTT]))
  refine set_ok hk (s0 := s0) (W := W) (T := T) (W1 := W1) (now := now) (x := x) (old := old) (most := most) (hh.keep (by (repeat first | assumption | exact KeepA.refl _ | apply KeepA.push | refine KeepA.set ?_ (by first | omega | (simp only [vz_push, vz_set, drop_size]; omega) | (have h9 := KeepA.size_le (by assumption); (try simp only [vz_push, vz_set, drop_size] at *); omega)) _ | refine KeepA.drop ?_ (by first | omega | (simp only [vz_push, vz_set, drop_size]; omega) | (have h9 := KeepA.size_le (by assumption); (try simp only [vz_push, vz_set, drop_size] at *); omega)) | refine KeepA.trans ?_ (by assumption)))) hJ hnl hxl hW (by simp only [vz_push, vz_set]; omega) (fun c => absurd c (by rw [hm]; simp)) (fun _ c => absurd c he) (fun _ _ s1 r1 f1 => ?_)
  have f2 := f1.1
  simp only [vz_push, vz_set] at f2
  have n1 := f1.at (c := s.size) (cs := eTT now L M) (e := 68) (ep := 0) (fr := 0) (str := false) (by simp only [eTT]; (simp -implicitDefEqProofs (disch := first | omega | (simp only [vz_push, vz_set, drop_size]; first | done | omega)) only [drop_ne, gp_ne, gp_eq, gs_ne, gs_eq])) (by omega) (by decide)
  have n2 := f1.at (c := s.size + 1 + 1) (cs := [.c (.slice none 0 0), .c (.int .i64 0), .c (.slice none 0 0), .c (.slice none 0 0)]) (e := 68) (ep := 0) (fr := 0) (str := false) (by (simp -implicitDefEqProofs (disch := first | omega | (simp only [vz_push, vz_set, drop_size]; first | done | omega)) only [drop_ne, gp_ne, gp_eq, gs_ne, gs_eq])) (by omega) (by decide)
  have n3 := f1.at (c := s.size + 1) (cs := [.c (.int .i64 0), LS x.1, .c (.int .i64 x.2), .c (.bool join)]) (e := 70) (ep := 0) (fr := 0) (str := false) (by (simp -implicitDefEqProofs (disch := first | omega | (simp only [vz_push, vz_set, drop_size]; first | done | omega)) only [drop_ne, gp_ne, gp_eq, gs_ne, gs_eq])) (by omega) (by decide)
  have g1 := n1.1
  have g2 := n2.1
  have g3 := n3.1
  simp only [eTT] at g1
  repeat' (first | ((first | apply ga_dec | apply ga_ndec | apply cd_dec | apply cd_ndec | apply gd_dec | apply gd_ndec | apply ga_split | apply cd_split | apply gd_split) <;> intro hc <;> (try (simp -implicitDefEqProofs (maxSteps := 2000000) (disch := first | omega | (simp only [vz_push, vz_set, drop_size]; first | done | omega)) only [push_cast, seval, f38N0, f38N1, f38N2, hc, g1, g2, g3, z1, rigA])) <;> (try (exfalso; omega))) | refine VC_pure (w1) ?_ | refine VC_pure (w2) ?_ | (simp -implicitDefEqProofs (maxSteps := 2000000) (disch := first | omega | (simp only [vz_push, vz_set, drop_size]; first | done | omega)) only [push_cast, seval, f38N0, f38N1, f38N2, g1, g2, g3, z1, rigA]))
  exact hK _ (r1.setx g2 (by decide) (by omega) _) (((Ft.ofKeep (by (repeat first | assumption | exact KeepA.refl _ | apply KeepA.push | refine KeepA.set ?_ (by first | omega | (simp only [vz_push, vz_set, drop_size]; omega) | (have h9 := KeepA.size_le (by assumption); (try simp only [vz_push, vz_set, drop_size] at *); omega)) _ | refine KeepA.drop ?_ (by first | omega | (simp only [vz_push, vz_set, drop_size]; omega) | (have h9 := KeepA.size_le (by assumption); (try simp only [vz_push, vz_set, drop_size] at *); omega)) | refine KeepA.trans ?_ (by assumption)))).trans f1).setn (by omega) _)
end
end Go.Proofs.Ytndedkpcfjnecaa.Ab
