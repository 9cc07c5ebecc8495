/- Trails: what does steps; the object's calls. -/
import Derived.Test.YtndedkpcfjnecaaO2
namespace Go.Proofs.Ytndedkpcfjnecaa.Ab
open Go.Proofs
set_option maxRecDepth 100000
set_option maxHeartbeats 4000000
set_option linter.unusedSimpArgs false
set_option linter.unusedVariables false
set_option linter.unnecessarySimpa false
set_option linter.unusedSectionVars false
section
variable {k : Nat → List Value → Option Value} (hk : ∀ f, f ≠ 69 → Open k f)
include hk
theorem doer_ok {s : VS} {b : Nat} {K : AV → VS → Prop} (h : K (.fn 110 [] [.ptr ⟨s.size, 0, none⟩]) (s.push (.own ⟨[.ptr ⟨b, 0, none⟩], 121, 0, 0, false⟩))) : VC (XK k) 77 [.ptr ⟨b, 0, none⟩] s K := by
  refine f77_in (hk _ (by decide)) ?_
  (try (simp -implicitDefEqProofs (maxSteps := 2000000) (disch := first | omega | (simp only [vz_push, vz_set, drop_size]; first | done | omega)) only [push_cast, seval, f77N0])) <;> (repeat' ((first | apply ga_dec | apply ga_ndec | apply cd_dec | apply cd_ndec | apply gd_dec | apply gd_ndec | apply ga_split | apply cd_split | apply gd_split) <;> intro hc <;> try (simp -implicitDefEqProofs (maxSteps := 2000000) (disch := first | omega | (simp only [vz_push, vz_set, drop_size]; first | done | omega)) only [push_cast, seval, f77N0, hc])))
  exact h
theorem doer1_ok {s : VS} {b x e : Nat} {S l : List (Int × Int)} {at0 at1 : Int} {rest : List AV} (p m : Nat) (hx : s.get x = some (.own ⟨[.ptr ⟨b, 0, none⟩], 121, 0, 0, false⟩)) (hb : s.get b = some (.own ⟨LS S :: .c (.int .i64 at0) :: rest, e, 0, 0, false⟩)) (hxb : x ≠ b)
    (h1 : p + m ≤ S.length) (hS : S.length < 100000) (hl : l.length < 100000) {K : AV → VS → Prop}
    (hK : ∀ s', s'.get b = some (.own ⟨LS (S.take p ++ l ++ S.drop (p + m)) :: .c (.int .i64 at1) :: rest, e, 0, 0, false⟩) → s.size ≤ s'.size → (∀ c, c < s.size → c ≠ b → s'.get c = s.get c ∧ s'.ver c = s.ver c) → K (.tup []) s') :
    VC (XK k) 110 [.c (.int .i64 p), .c (.int .i64 m), LS l, .c (.int .i64 at1), .ptr ⟨x, 0, none⟩] s K := by
  refine f110_in (hk _ (by decide)) ?_
  have z1 := VS.lt_of_get hx
  have z2 := VS.lt_of_get hb
  have hd : List.take (S.length - (p + m)) (List.drop (p + m) S) = S.drop (p + m) := List.take_of_length_le (by rw [List.length_drop]; exact Nat.le_refl _)
  (try (simp -implicitDefEqProofs (maxSteps := 2000000) (disch := first | omega | (simp only [vz_push, vz_set, drop_size]; first | done | omega)) only [push_cast, seval, f110N0, hx, hb, hd])) <;> (repeat' ((first | apply ga_dec | apply ga_ndec | apply cd_dec | apply cd_ndec | apply gd_dec | apply gd_ndec | apply ga_split | apply cd_split | apply gd_split) <;> intro hc <;> try (simp -implicitDefEqProofs (maxSteps := 2000000) (disch := first | omega | (simp only [vz_push, vz_set, drop_size]; first | done | omega)) only [push_cast, seval, f110N0, hc, hx, hb, hd])))
  refine VC_row (l := [LS (S.take p), LS l, LS (S.drop (p + m))]) (gp_eq (by simp only [vz_push])) rfl (FirmR.cons (Firm.LS _) (FirmR.cons (Firm.LS _) (FirmR.cons (Firm.LS _) FirmR.nil))) ?_
  have e : AV.lst 1 ([LS (S.take p), LS l, LS (S.drop (p + m))].map fun v => [v]) = LLS [S.take p, l, S.drop (p + m)] := rfl
  rw [e]
  refine VC_pure (concat_ok hk [S.take p, l, S.drop (p + m)] (by simp) (by simp; omega)) ?_
  have hfl : [S.take p, l, S.drop (p + m)].flatten = S.take p ++ l ++ S.drop (p + m) := by simp
  rw [hfl]
  (try (simp -implicitDefEqProofs (maxSteps := 2000000) (disch := first | omega | (simp only [vz_push, vz_set, drop_size]; first | done | omega)) only [push_cast, seval, f110N0, hx, hb, z1, z2])) <;> (repeat' ((first | apply ga_dec | apply ga_ndec | apply cd_dec | apply cd_ndec | apply gd_dec | apply gd_ndec | apply ga_split | apply cd_split | apply gd_split) <;> intro hc <;> try (simp -implicitDefEqProofs (maxSteps := 2000000) (disch := first | omega | (simp only [vz_push, vz_set, drop_size]; first | done | omega)) only [push_cast, seval, f110N0, hc, hx, hb, z1, z2])))
  refine ⟨rfl, hK _ (gs_eq rfl (by simp only [vz_set, drop_size, vz_push]; omega)) (by simp only [vz_set, drop_size, vz_push]; omega) fun c hc hne => ⟨by rw [gs_ne hne, gs_ne hne, drop_ne (by omega), gp_ne (by omega)], by rw [vs_ver hne, vs_ver hne]; rfl⟩⟩
end
/-- A trail at row b: its line, its steps back and forth, its cap. -/
def Trl (s0 s : VS) (b : Nat) (now : Ln) (W T : List Sp) (most : Int) : Prop := ∃ vw vt, s.get b = some (.own ⟨[LS now.1, .c (.int .i64 now.2), vw, vt, .c (.int .i64 most)], 112, 0, 0, false⟩) ∧ s0.size ≤ b ∧ Gt eT s0 s 118 4 vw W ∧ Gt eT s0 s 118 4 vt T ∧ ∀ c, blkOf vw = some c → blkOf vt ≠ some c
/-- Old rows are as they were, and so are all that are no trail's, no steps'. -/
def Ft (s s' : VS) (b : Nat) : Prop := s.size ≤ s'.size ∧ ∀ c o, s.get c = some o → c ≠ b → (∀ r, o = .own r → r.elem ≠ 118) → s'.get c = some o ∧ s'.ver c = s.ver c
theorem Ft.refl (s : VS) (b : Nat) : Ft s s b := ⟨Nat.le_refl _, fun _ _ h _ _ => ⟨h, rfl⟩⟩
theorem Ft.trans {s s1 s2 : VS} {b : Nat} (h : Ft s s1 b) (k : Ft s1 s2 b) : Ft s s2 b := ⟨Nat.le_trans h.1 k.1, fun c o hc hb hr => by
  have h1 := h.2 c o hc hb hr
  have h2 := k.2 c o h1.1 hb hr
  exact ⟨h2.1, h2.2.trans h1.2⟩⟩
theorem Ft.push {s s1 : VS} {b : Nat} (h : Ft s s1 b) (o1 : VO) : Ft s (s1.push o1) b := ⟨by have := h.1; rw [vz_push]; omega, fun c o hc hb hr => by
  have h1 := h.2 c o hc hb hr
  exact ⟨by rw [gp_ne (by have := VS.lt_of_get h1.1; omega)]; exact h1.1, h1.2⟩⟩
theorem Ft.setb {s s1 : VS} {b : Nat} (h : Ft s s1 b) (o1 : VO) : Ft s (s1.set b o1) b := ⟨by rw [vz_set]; exact h.1, fun c o hc hb hr => by
  have h1 := h.2 c o hc hb hr
  exact ⟨by rw [gs_ne hb]; exact h1.1, by rw [vs_ver hb]; exact h1.2⟩⟩
theorem Ft.setn {s s1 : VS} {b x : Nat} (h : Ft s s1 b) (hx : s.size ≤ x) (o1 : VO) : Ft s (s1.set x o1) b := ⟨by rw [vz_set]; exact h.1, fun c o hc hb hr => by
  have h1 := h.2 c o hc hb hr
  have hcx : c ≠ x := by have := VS.lt_of_get hc; omega
  exact ⟨by rw [gs_ne hcx]; exact h1.1, by rw [vs_ver hcx]; exact h1.2⟩⟩
theorem Ft.all {s s1 s2 : VS} {b x : Nat} (h : Ft s s1 b) (hx : x = b ∨ s.size ≤ x) (hs : s1.size ≤ s2.size) (k : ∀ c, c < s1.size → c ≠ x → s2.get c = s1.get c ∧ s2.ver c = s1.ver c) : Ft s s2 b := ⟨Nat.le_trans h.1 hs, fun c o hc hb hr => by
  have h1 := h.2 c o hc hb hr
  have hcx : c ≠ x := by
    have := VS.lt_of_get hc
    rcases hx with rfl | hx
    · exact hb
    · omega
  have h2 := k c (VS.lt_of_get h1.1) hcx
  exact ⟨by rw [h2.1]; exact h1.1, by rw [h2.2]; exact h1.2⟩⟩
theorem Ft.but {s s1 s2 : VS} {b : Nat} {v : AV} (h : Ft s s1 b) (hv : ∀ c, c < s.size → blkOf v = some c → ∃ r, s.get c = some (.own r) ∧ r.elem = 118) (k : But s1 s2 v) : Ft s s2 b := ⟨Nat.le_trans h.1 k.1, fun c o hc hb hr => by
  have h1 := h.2 c o hc hb hr
  have h2 := k.2 c (VS.lt_of_get h1.1) (fun e => by
    obtain ⟨r, e1, e2⟩ := hv c (VS.lt_of_get hc) e
    rw [hc] at e1
    exact hr r (Option.some.inj e1) e2)
  exact ⟨by rw [h2.1]; exact h1.1, by rw [h2.2]; exact h1.2⟩⟩
theorem Trl.ne {s0 s : VS} {b : Nat} {v : AV} {l : List Sp} {cs : List AV} (hb : s.get b = some (.own ⟨cs, 112, 0, 0, false⟩)) (h : Gt eT s0 s 118 4 v l) : blkOf v ≠ some b := fun hv => by
  obtain ⟨_, _, r, h1, h2⟩ := h.blk hv
  rw [hb] at h1
  cases h1
  exact absurd (show (112 : Nat) = 118 from h2) (by decide)
section
variable {k : Nat → List Value → Option Value} (hk : ∀ f, f ≠ 69 → Open k f)
include hk
theorem steps_ok {s0 s : VS} {b : Nat} {now : Ln} {W T : List Sp} {most : Int} (h : Trl s0 s b now W T most) {K : AV → VS → Prop} (hK : K (.tup [.c (.int .i64 W.length), .c (.int .i64 T.length)]) s) : VC (XK k) 39 [.ptr ⟨b, 0, none⟩] s K := by
  refine f39_in (hk _ (by decide)) ?_
  obtain ⟨vw, vt, h1, h2, h3, h4, h5⟩ := h
  cases h3 with
  | nil =>
    cases h4 with
    | nil =>
      (try (simp -implicitDefEqProofs (maxSteps := 2000000) (disch := first | omega | (simp only [vz_push, vz_set, drop_size]; first | done | omega)) only [push_cast, seval, f39N0, f39N1, h1])) <;> (repeat' ((first | apply ga_dec | apply ga_ndec | apply cd_dec | apply cd_ndec | apply gd_dec | apply gd_ndec | apply ga_split | apply cd_split | apply gd_split) <;> intro hc <;> try (simp -implicitDefEqProofs (maxSteps := 2000000) (disch := first | omega | (simp only [vz_push, vz_set, drop_size]; first | done | omega)) only [push_cast, seval, f39N0, f39N1, hc, h1])))
      exact hK
    | row c2 sp2 n2 N2 l2 zs2 r1 r2 r3 r4 r5 =>
      subst r3
      (try (simp -implicitDefEqProofs (maxSteps := 2000000) (disch := first | omega | (simp only [vz_push, vz_set, drop_size]; first | done | omega)) only [push_cast, seval, f39N0, f39N1, h1])) <;> (repeat' ((first | apply ga_dec | apply ga_ndec | apply cd_dec | apply cd_ndec | apply gd_dec | apply gd_ndec | apply ga_split | apply cd_split | apply gd_split) <;> intro hc <;> try (simp -implicitDefEqProofs (maxSteps := 2000000) (disch := first | omega | (simp only [vz_push, vz_set, drop_size]; first | done | omega)) only [push_cast, seval, f39N0, f39N1, hc, h1])))
      exact hK
  | row c1 sp1 n1 N1 l1 zs1 q1 q2 q3 q4 q5 =>
    subst q3
    cases h4 with
    | nil =>
      (try (simp -implicitDefEqProofs (maxSteps := 2000000) (disch := first | omega | (simp only [vz_push, vz_set, drop_size]; first | done | omega)) only [push_cast, seval, f39N0, f39N1, h1])) <;> (repeat' ((first | apply ga_dec | apply ga_ndec | apply cd_dec | apply cd_ndec | apply gd_dec | apply gd_ndec | apply ga_split | apply cd_split | apply gd_split) <;> intro hc <;> try (simp -implicitDefEqProofs (maxSteps := 2000000) (disch := first | omega | (simp only [vz_push, vz_set, drop_size]; first | done | omega)) only [push_cast, seval, f39N0, f39N1, hc, h1])))
      exact hK
    | row c2 sp2 n2 N2 l2 zs2 r1 r2 r3 r4 r5 =>
      subst r3
      (try (simp -implicitDefEqProofs (maxSteps := 2000000) (disch := first | omega | (simp only [vz_push, vz_set, drop_size]; first | done | omega)) only [push_cast, seval, f39N0, f39N1, h1])) <;> (repeat' ((first | apply ga_dec | apply ga_ndec | apply cd_dec | apply cd_ndec | apply gd_dec | apply gd_ndec | apply ga_split | apply cd_split | apply gd_split) <;> intro hc <;> try (simp -implicitDefEqProofs (maxSteps := 2000000) (disch := first | omega | (simp only [vz_push, vz_set, drop_size]; first | done | omega)) only [push_cast, seval, f39N0, f39N1, hc, h1])))
      exact hK
omit hk in
theorem Trl.keep {s0 s s' : VS} {b : Nat} {now : Ln} {W T : List Sp} {most : Int} (h : Trl s0 s b now W T most) (hk : KeepA s s') : Trl s0 s' b now W T most := by
  obtain ⟨vw, vt, h1, h2, h3, h4, h5⟩ := h
  exact ⟨vw, vt, hk.get h1, h2, h3.get fun c hc => (hk.2 c (h3.blk hc).2.1).1, h4.get fun c hc => (hk.2 c (h4.blk hc).2.1).1, h5⟩
theorem now_ok {s0 s : VS} {b : Nat} {now : Ln} {W T : List Sp} {most : Int} (h : Trl s0 s b now W T most) (hl : now.1.length < 100000) {K : AV → VS → Prop} (hK : ∀ s', Trl s0 s' b now W T most → KeepA s s' → K (.agg (eL now)) s') : VC (XK k) 41 [.ptr ⟨b, 0, none⟩] s K := by
  refine f41_in (hk _ (by decide)) ?_
  have hh := h
  obtain ⟨vw, vt, h1, h2, h3, h4, h5⟩ := h
  have z1 := VS.lt_of_get h1
  repeat' (first | ((first | apply ga_dec | apply ga_ndec | apply cd_dec | apply cd_ndec | apply gd_dec | apply gd_ndec | apply ga_split | apply cd_split | apply gd_split) <;> intro hc <;> (try (simp -implicitDefEqProofs (maxSteps := 2000000) (disch := first | omega | (simp only [vz_push, vz_set, drop_size]; first | done | omega)) only [push_cast, seval, f41N0, f41N1, hc, h1, z1, rigA])) <;> (try (exfalso; omega))) | refine VC_pure (clone_ok hk now.1 (by omega)) ?_ | (simp -implicitDefEqProofs (maxSteps := 2000000) (disch := first | omega | (simp only [vz_push, vz_set, drop_size]; first | done | omega)) only [push_cast, seval, f41N0, f41N1, h1, z1, rigA]))
  exact ⟨by omega, hK _ (hh.keep (by (repeat first | assumption | exact KeepA.refl _ | apply KeepA.push | refine KeepA.set ?_ (by first | omega | (simp only [vz_push, vz_set, drop_size]; omega) | (have h9 := KeepA.size_le (by assumption); (try simp only [vz_push, vz_set, drop_size] at *); omega)) _ | refine KeepA.drop ?_ (by first | omega | (simp only [vz_push, vz_set, drop_size]; omega) | (have h9 := KeepA.size_le (by assumption); (try simp only [vz_push, vz_set, drop_size] at *); omega)) | refine KeepA.trans ?_ (by assumption)))) (by (repeat first | assumption | exact KeepA.refl _ | apply KeepA.push | refine KeepA.set ?_ (by first | omega | (simp only [vz_push, vz_set, drop_size]; omega) | (have h9 := KeepA.size_le (by assumption); (try simp only [vz_push, vz_set, drop_size] at *); omega)) _ | refine KeepA.drop ?_ (by first | omega | (simp only [vz_push, vz_set, drop_size]; omega) | (have h9 := KeepA.size_le (by assumption); (try simp only [vz_push, vz_set, drop_size] at *); omega)) | refine KeepA.trans ?_ (by assumption)))⟩
/-- What a step makes of signs. -/
def appS (S : List (Int × Int)) (p m : Nat) (l : List (Int × Int)) : List (Int × Int) := S.take p ++ l ++ S.drop (p + m)
theorem back_ok {s0 s : VS} {b : Nat} {now : Ln} {W T : List Sp} {st : Sp} {most : Int} (h : Trl s0 s b now (W ++ [st]) T most) (p : Nat) (hp : st.1 = p) (hb : p + st.2.2.1.length ≤ now.1.length) (hl : now.1.length < 100000) (hg : st.2.1.length < 100000) (hW : W.length < 10000) (hT : T.length < 10000)
    {K : AV → VS → Prop} (hK : ∀ s', Trl s0 s' b (appS now.1 p st.2.2.1.length st.2.1, st.2.2.2) W (T ++ [(st.1, st.2.1, st.2.2.1, now.2)]) most → Ft s s' b → K (.c (.bool true)) s') : VC (XK k) 42 [.ptr ⟨b, 0, none⟩] s K := by
  refine f42_in (hk _ (by decide)) ?_
  obtain ⟨pl, gone, come, at1⟩ := st
  simp only at hp hb hg hK
  subst hp
  obtain ⟨vw, vt, h1, h2, h3, h4, h5⟩ := h
  have z1 := VS.lt_of_get h1
  have hvb := Trl.ne h1 h4
  have hwb := Trl.ne h1 h3
  obtain ⟨L, hL⟩ : ∃ L, L = W ++ [((p : Int), gone, come, at1)] := ⟨_, rfl⟩
  rw [← hL] at h3
  cases h3 with
  | nil => exact absurd hL (by simp)
  | row c sp n N l zs q1 q2 q3 q4 q5 =>
    have hLl : L.length = W.length + 1 := by rw [hL, List.length_append, List.length_singleton]
    rw [hLl] at q3
    subst q3
    have z2 := VS.lt_of_get q1
    have hcb : c ≠ b := fun e => hwb (by rw [e]; rfl)
    have hrd : List.take 4 (List.drop (W.length * 4) ((L.map eT).flatten ++ zs)) = eT ((p : Int), gone, come, at1) := by
      rw [hL, List.map_append, List.flatten_append, List.append_assoc, List.drop_left' (flat_lenf len_eT W)]
      rfl
    obtain ⟨C, hC⟩ : ∃ C, C = (L.map eT).flatten ++ zs := ⟨_, rfl⟩
    have q1' := q1
    rw [← hC] at q1' q4 hrd
    have hN : (W.length + 1) * 4 ≤ N * 4 := Nat.mul_le_mul_right 4 q5
    have g3 : Gt eT s0 s 118 4 (.sl ⟨c, 0, sp⟩ (W.length + 1) (capO N)) L := .row c sp (W.length + 1) N L zs q1 q2 hLl.symm (by rw [← hC]; exact q4) q5
    have hW1 : (W.length : Int) + 1 - 1 = W.length := by omega
    repeat' (first | ((first | apply ga_dec | apply ga_ndec | apply cd_dec | apply cd_ndec | apply gd_dec | apply gd_ndec | apply ga_split | apply cd_split | apply gd_split) <;> intro hc <;> (try (simp -implicitDefEqProofs (maxSteps := 2000000) (disch := first | omega | (simp only [vz_push, vz_set, drop_size]; first | done | omega)) only [push_cast, seval, f42N0, f42N1, f42N2, hc, h1, q1', q4, hrd, eT, z1, z2, hW1])) <;> (try (exfalso; omega))) | (simp -implicitDefEqProofs (maxSteps := 2000000) (disch := first | omega | (simp only [vz_push, vz_set, drop_size]; first | done | omega)) only [push_cast, seval, f42N0, f42N1, f42N2, h1, q1', q4, hrd, eT, z1, z2, hW1]))
    refine doer_ok hk ?_
    (try (simp -implicitDefEqProofs (maxSteps := 2000000) (disch := first | omega | (simp only [vz_push, vz_set, drop_size]; first | done | omega)) only [push_cast, seval, f42N0, f42N1, f42N2, h1, q1', z1, z2, hW1])) <;> (repeat' ((first | apply ga_dec | apply ga_ndec | apply cd_dec | apply cd_ndec | apply gd_dec | apply gd_ndec | apply ga_split | apply cd_split | apply gd_split) <;> intro hc <;> try (simp -implicitDefEqProofs (maxSteps := 2000000) (disch := first | omega | (simp only [vz_push, vz_set, drop_size]; first | done | omega)) only [push_cast, seval, f42N0, f42N1, f42N2, hc, h1, q1', z1, z2, hW1])))
    refine doer1_ok hk (b := b) (S := now.1) p come.length (x := s.size + 1) (at0 := now.2) (rest := [.sl ⟨c, 0, sp⟩ (W.length + 1) (capO N), vt, .c (.int .i64 most)]) (e := 112) (by (simp -implicitDefEqProofs (disch := first | omega | (simp only [vz_push, vz_set, drop_size]; first | done | omega)) only [drop_ne, gp_ne, gp_eq, gs_ne, gs_eq])) (by (simp -implicitDefEqProofs (disch := first | omega | (simp only [vz_push, vz_set, drop_size]; first | done | omega)) only [drop_ne, gp_ne, gp_eq, gs_ne, gs_eq]); exact h1) (by omega) hb hl hg ?_
    intro s1 r1 r2 r3
    simp only [vz_push, vz_set] at r2
    have z3 := VS.lt_of_get r1
    have r5 : s1.get s.size = some (.own ⟨[.c (.int .i64 p), LS gone, LS come, .c (.int .i64 at1)], 118, 0, 0, false⟩) := by
      rw [(r3 s.size (by simp only [vz_push, vz_set]; omega) (by omega)).1]
      (simp -implicitDefEqProofs (disch := first | omega | (simp only [vz_push, vz_set, drop_size]; first | done | omega)) only [drop_ne, gp_ne, gp_eq, gs_ne, gs_eq])
    have H : ∀ d, d < s.size → d ≠ b → s1.get d = s.get d := fun d hd hne => by
      rw [(r3 d (by simp only [vz_push, vz_set]; omega) hne).1, gp_ne (by simp only [vz_push, vz_set]; omega), gs_ne (by omega), gp_ne (by omega)]
    have g3a : Gt eT s0 s1 118 4 (.sl ⟨c, 0, sp⟩ (W.length + 1) (capO N)) L := g3.get fun d hd => H d (g3.blk hd).2.1 (fun e => hwb (by rw [hd, e]))
    have h4a : Gt eT s0 s1 118 4 vt T := h4.get fun d hd => H d (h4.blk hd).2.1 (fun e => hvb (by rw [hd, e]))
    (try (simp -implicitDefEqProofs (maxSteps := 2000000) (disch := first | omega | (simp only [vz_push, vz_set, drop_size]; first | done | omega)) only [push_cast, seval, f42N0, f42N1, f42N2, r1, r5, z1, z2, z3, hW1])) <;> (repeat' ((first | apply ga_dec | apply ga_ndec | apply cd_dec | apply cd_ndec | apply gd_dec | apply gd_ndec | apply ga_split | apply cd_split | apply gd_split) <;> intro hc <;> try (simp -implicitDefEqProofs (maxSteps := 2000000) (disch := first | omega | (simp only [vz_push, vz_set, drop_size]; first | done | omega)) only [push_cast, seval, f42N0, f42N1, f42N2, hc, r1, r5, z1, z2, z3, hW1])))
    refine deleteT_ok hk (g3a.set (fun e => by simp [blkOf] at e; omega) _) W.length (by omega) (by omega) ?_
    intro v2 s2 m1 m2 m3 m4
    obtain ⟨a2, n2, c2, rfl⟩ := m4
    have hLe : L.eraseIdx W.length = W := by rw [hL, List.eraseIdx_append_of_length_le (Nat.le_refl _), Nat.sub_self]; simp
    rw [hLe] at m1
    have hbk : (blkOf (.sl ⟨c, 0, sp⟩ (W.length + 1) (capO N)) : Option Nat) = some c := rfl
    have n1 : s2.get b = some (.own ⟨[LS (appS now.1 p come.length gone), .c (.int .i64 at1), .sl ⟨c, 0, sp⟩ (W.length + 1) (capO N), vt, .c (.int .i64 most)], 112, 0, 0, false⟩) := by
      rw [(m2.2 b (by simp only [vz_set]; omega) (by rw [hbk]; simp; omega)).1, gs_ne (by omega)]
      exact r1
    have n3 : s2.get s.size = some (.own ⟨[.c (.int .i64 p), LS gone, LS come, .c (.int .i64 now.2)], 118, 0, 0, false⟩) := by
      rw [(m2.2 s.size (by simp only [vz_set]; omega) (by rw [hbk]; simp; omega)).1]
      exact gs_eq rfl (by omega)
    have z4 := VS.lt_of_get n1
    have z5 := VS.lt_of_get n3
    have h4b : Gt eT s0 s2 118 4 vt T := (h4a.set (c := s.size) (fun e => by have := (h4.blk e).2.1; omega) _).get fun d hd => by
      have hd1 := (h4a.blk hd).2.1
      exact (m2.2 d (by simp only [vz_set]; omega) (by rw [hbk]; intro e; exact h5 c rfl (by rw [hd]; exact e.symm ▸ rfl))).1
    (try (simp -implicitDefEqProofs (maxSteps := 2000000) (disch := first | omega | (simp only [vz_push, vz_set, drop_size]; first | done | omega)) only [push_cast, seval, f42N0, f42N1, f42N2, n1, n3, z4, z5])) <;> (repeat' ((first | apply ga_dec | apply ga_ndec | apply cd_dec | apply cd_ndec | apply gd_dec | apply gd_ndec | apply ga_split | apply cd_split | apply gd_split) <;> intro hc <;> try (simp -implicitDefEqProofs (maxSteps := 2000000) (disch := first | omega | (simp only [vz_push, vz_set, drop_size]; first | done | omega)) only [push_cast, seval, f42N0, f42N1, f42N2, hc, n1, n3, z4, z5])))
    refine ⟨by cases h4b <;> rfl, ?_⟩
    have hv2b := fun e : blkOf vt = some b => hvb e
    have hs2 := m2.1
    simp only [vz_set] at hs2
    obtain ⟨v3, s3, k1, k2, k3, k4, a3, c3, rfl⟩ := ((h4b.set (c := b) hvb (.own ⟨[LS (appS now.1 p come.length gone), .c (.int .i64 at1), .sl a2 n2 c2, vt, .c (.int .i64 most)], 112, 0, 0, false⟩)).push (.own ⟨[.c (.int .i64 p), LS gone, LS come, .c (.int .i64 now.2)], 118, 0, 0, false⟩)).append1 (te := ⟨.struct #[⟨"place", 3, 0, false, "", "dactyl/undo", 0⟩, ⟨"gone", 22, 1, false, "", "dactyl/undo", 8⟩, ⟨"come", 22, 2, false, "", "dactyl/undo", 32⟩, ⟨"at", 3, 3, false, "", "dactyl/undo", 56⟩], 4, 64, .agg #[.int .i64 0, .slice none 0 0, .slice none 0 0, .int .i64 0]⟩) len_eT ((p : Int), gone, come, now.2) (by simp only [vz_push, vz_set]; omega) rfl rfl (room_ok (by constructor <;> (try dsimp only) <;> omega))
    have k1' : appendToA _ 118 1 [AV.c (.int .i64 p), LS gone, LS come, AV.c (.int .i64 now.2)] vt _ = _ := k1
    rw [k1', ct_some]
    have u1 : s3.get b = some (.own ⟨[LS (appS now.1 p come.length gone), .c (.int .i64 at1), .sl a2 n2 c2, vt, .c (.int .i64 most)], 112, 0, 0, false⟩) := by
      rw [(k3.2 b (by simp only [vz_push, vz_set]; omega) hvb).1, gp_ne (by simp only [vz_set]; omega)]
      exact gs_eq rfl z4
    have z6 := VS.lt_of_get u1
    have u2 := (k3.2 b (by simp only [vz_push, vz_set]; omega) hvb).2
    simp only [vp_ver, vs_ver] at u2
    (try (simp -implicitDefEqProofs (maxSteps := 2000000) (disch := first | omega | (simp only [vz_push, vz_set, drop_size]; first | done | omega)) only [push_cast, seval, f42N0, f42N1, f42N2, u1, u2, z6])) <;> (repeat' ((first | apply ga_dec | apply ga_ndec | apply cd_dec | apply cd_ndec | apply gd_dec | apply gd_ndec | apply ga_split | apply cd_split | apply gd_split) <;> intro hc <;> try (simp -implicitDefEqProofs (maxSteps := 2000000) (disch := first | omega | (simp only [vz_push, vz_set, drop_size]; first | done | omega)) only [push_cast, seval, f42N0, f42N1, f42N2, hc, u1, u2, z6])))
    have sepd : ∀ d, blkOf (.sl a2 n2 c2) = some d → blkOf vt ≠ some d := fun d hd he => by
      have := (h4.blk he).2.1
      exact h5 d (m3 d (by simp only [vz_set]; omega) hd) he
    have neb := Trl.ne n1 m1
    refine hK _ ⟨_, _, gs_eq rfl z6, h2, m1.get fun d hd => ?_, k2.set (fun e => hvb (k4 b (by simp only [vz_push, vz_set]; omega) e)) _, fun d hd he => sepd d hd (k4 d (by have := (m1.blk hd).2.1; simp only [vz_push, vz_set]; omega) he)⟩ (((((((((((Ft.refl s b).push _).setn (Nat.le_refl _) _).push _).all (.inl rfl) (by simp only [vz_push, vz_set]; omega) r3).setn (Nat.le_refl _) _).but (fun d _ hd => by simp [blkOf] at hd; subst hd; exact ⟨_, q1, rfl⟩) m2).setb _).push _).but (fun d _ hd => (h4.blk hd).2.2) k3).setb _)
    have hdb : d ≠ b := fun e => neb (by rw [hd, e])
    have hds := (m1.blk hd).2.1
    rw [gs_ne hdb, (k3.2 d (by simp only [vz_push, vz_set]; omega) (sepd d hd)).1, gp_ne (by simp only [vz_set]; omega), gs_ne hdb]
theorem forth_ok {s0 s : VS} {b : Nat} {now : Ln} {T W : List Sp} {st : Sp} {most : Int} (h : Trl s0 s b now W (T ++ [st]) most) (p : Nat) (hp : st.1 = p) (hb : p + st.2.1.length ≤ now.1.length) (hl : now.1.length < 100000) (hg : st.2.2.1.length < 100000) (hW : W.length < 10000) (hT : T.length < 10000)
    {K : AV → VS → Prop} (hK : ∀ s', Trl s0 s' b (appS now.1 p st.2.1.length st.2.2.1, st.2.2.2) (W ++ [(st.1, st.2.1, st.2.2.1, now.2)]) T most → Ft s s' b → K (.c (.bool true)) s') : VC (XK k) 43 [.ptr ⟨b, 0, none⟩] s K := by
  refine f43_in (hk _ (by decide)) ?_
  obtain ⟨pl, gone, come, at1⟩ := st
  simp only at hp hb hg hK
  subst hp
  obtain ⟨vw, vt, h1, h2, h4, h3, h5'⟩ := h
  have h5 : ∀ c, blkOf vt = some c → blkOf vw ≠ some c := fun c e1 e2 => h5' c e2 e1
  clear h5'
  have z1 := VS.lt_of_get h1
  have hvb := Trl.ne h1 h4
  have hwb := Trl.ne h1 h3
  obtain ⟨L, hL⟩ : ∃ L, L = T ++ [((p : Int), gone, come, at1)] := ⟨_, rfl⟩
  rw [← hL] at h3
  cases h3 with
  | nil => exact absurd hL (by simp)
  | row c sp n N l zs q1 q2 q3 q4 q5 =>
    have hLl : L.length = T.length + 1 := by rw [hL, List.length_append, List.length_singleton]
    rw [hLl] at q3
    subst q3
    have z2 := VS.lt_of_get q1
    have hcb : c ≠ b := fun e => hwb (by rw [e]; rfl)
    have hrd : List.take 4 (List.drop (T.length * 4) ((L.map eT).flatten ++ zs)) = eT ((p : Int), gone, come, at1) := by
      rw [hL, List.map_append, List.flatten_append, List.append_assoc, List.drop_left' (flat_lenf len_eT T)]
      rfl
    obtain ⟨C, hC⟩ : ∃ C, C = (L.map eT).flatten ++ zs := ⟨_, rfl⟩
    have q1' := q1
    rw [← hC] at q1' q4 hrd
    have hN : (T.length + 1) * 4 ≤ N * 4 := Nat.mul_le_mul_right 4 q5
    have g3 : Gt eT s0 s 118 4 (.sl ⟨c, 0, sp⟩ (T.length + 1) (capO N)) L := .row c sp (T.length + 1) N L zs q1 q2 hLl.symm (by rw [← hC]; exact q4) q5
    have hW1 : (T.length : Int) + 1 - 1 = T.length := by omega
    repeat' (first | ((first | apply ga_dec | apply ga_ndec | apply cd_dec | apply cd_ndec | apply gd_dec | apply gd_ndec | apply ga_split | apply cd_split | apply gd_split) <;> intro hc <;> (try (simp -implicitDefEqProofs (maxSteps := 2000000) (disch := first | omega | (simp only [vz_push, vz_set, drop_size]; first | done | omega)) only [push_cast, seval, f43N0, f43N1, f43N2, hc, h1, q1', q4, hrd, eT, z1, z2, hW1])) <;> (try (exfalso; omega))) | (simp -implicitDefEqProofs (maxSteps := 2000000) (disch := first | omega | (simp only [vz_push, vz_set, drop_size]; first | done | omega)) only [push_cast, seval, f43N0, f43N1, f43N2, h1, q1', q4, hrd, eT, z1, z2, hW1]))
    refine doer_ok hk ?_
    (try (simp -implicitDefEqProofs (maxSteps := 2000000) (disch := first | omega | (simp only [vz_push, vz_set, drop_size]; first | done | omega)) only [push_cast, seval, f43N0, f43N1, f43N2, h1, q1', z1, z2, hW1])) <;> (repeat' ((first | apply ga_dec | apply ga_ndec | apply cd_dec | apply cd_ndec | apply gd_dec | apply gd_ndec | apply ga_split | apply cd_split | apply gd_split) <;> intro hc <;> try (simp -implicitDefEqProofs (maxSteps := 2000000) (disch := first | omega | (simp only [vz_push, vz_set, drop_size]; first | done | omega)) only [push_cast, seval, f43N0, f43N1, f43N2, hc, h1, q1', z1, z2, hW1])))
    refine doer1_ok hk (b := b) (S := now.1) p gone.length (x := s.size + 1) (at0 := now.2) (rest := [vw, .sl ⟨c, 0, sp⟩ (T.length + 1) (capO N), .c (.int .i64 most)]) (e := 112) (by (simp -implicitDefEqProofs (disch := first | omega | (simp only [vz_push, vz_set, drop_size]; first | done | omega)) only [drop_ne, gp_ne, gp_eq, gs_ne, gs_eq])) (by (simp -implicitDefEqProofs (disch := first | omega | (simp only [vz_push, vz_set, drop_size]; first | done | omega)) only [drop_ne, gp_ne, gp_eq, gs_ne, gs_eq]); exact h1) (by omega) hb hl hg ?_
    intro s1 r1 r2 r3
    simp only [vz_push, vz_set] at r2
    have z3 := VS.lt_of_get r1
    have r5 : s1.get s.size = some (.own ⟨[.c (.int .i64 p), LS gone, LS come, .c (.int .i64 at1)], 118, 0, 0, false⟩) := by
      rw [(r3 s.size (by simp only [vz_push, vz_set]; omega) (by omega)).1]
      (simp -implicitDefEqProofs (disch := first | omega | (simp only [vz_push, vz_set, drop_size]; first | done | omega)) only [drop_ne, gp_ne, gp_eq, gs_ne, gs_eq])
    have H : ∀ d, d < s.size → d ≠ b → s1.get d = s.get d := fun d hd hne => by
      rw [(r3 d (by simp only [vz_push, vz_set]; omega) hne).1, gp_ne (by simp only [vz_push, vz_set]; omega), gs_ne (by omega), gp_ne (by omega)]
    have g3a : Gt eT s0 s1 118 4 (.sl ⟨c, 0, sp⟩ (T.length + 1) (capO N)) L := g3.get fun d hd => H d (g3.blk hd).2.1 (fun e => hwb (by rw [hd, e]))
    have h4a : Gt eT s0 s1 118 4 vw W := h4.get fun d hd => H d (h4.blk hd).2.1 (fun e => hvb (by rw [hd, e]))
    (try (simp -implicitDefEqProofs (maxSteps := 2000000) (disch := first | omega | (simp only [vz_push, vz_set, drop_size]; first | done | omega)) only [push_cast, seval, f43N0, f43N1, f43N2, r1, r5, z1, z2, z3, hW1])) <;> (repeat' ((first | apply ga_dec | apply ga_ndec | apply cd_dec | apply cd_ndec | apply gd_dec | apply gd_ndec | apply ga_split | apply cd_split | apply gd_split) <;> intro hc <;> try (simp -implicitDefEqProofs (maxSteps := 2000000) (disch := first | omega | (simp only [vz_push, vz_set, drop_size]; first | done | omega)) only [push_cast, seval, f43N0, f43N1, f43N2, hc, r1, r5, z1, z2, z3, hW1])))
    refine deleteT_ok hk (g3a.set (fun e => by simp [blkOf] at e; omega) _) T.length (by omega) (by omega) ?_
    intro v2 s2 m1 m2 m3 m4
    obtain ⟨a2, n2, c2, rfl⟩ := m4
    have hLe : L.eraseIdx T.length = T := by rw [hL, List.eraseIdx_append_of_length_le (Nat.le_refl _), Nat.sub_self]; simp
    rw [hLe] at m1
    have hbk : (blkOf (.sl ⟨c, 0, sp⟩ (T.length + 1) (capO N)) : Option Nat) = some c := rfl
    have n1 : s2.get b = some (.own ⟨[LS (appS now.1 p gone.length come), .c (.int .i64 at1), vw, .sl ⟨c, 0, sp⟩ (T.length + 1) (capO N), .c (.int .i64 most)], 112, 0, 0, false⟩) := by
      rw [(m2.2 b (by simp only [vz_set]; omega) (by rw [hbk]; simp; omega)).1, gs_ne (by omega)]
      exact r1
    have n3 : s2.get s.size = some (.own ⟨[.c (.int .i64 p), LS gone, LS come, .c (.int .i64 now.2)], 118, 0, 0, false⟩) := by
      rw [(m2.2 s.size (by simp only [vz_set]; omega) (by rw [hbk]; simp; omega)).1]
      exact gs_eq rfl (by omega)
    have z4 := VS.lt_of_get n1
    have z5 := VS.lt_of_get n3
    have h4b : Gt eT s0 s2 118 4 vw W := (h4a.set (c := s.size) (fun e => by have := (h4.blk e).2.1; omega) _).get fun d hd => by
      have hd1 := (h4a.blk hd).2.1
      exact (m2.2 d (by simp only [vz_set]; omega) (by rw [hbk]; intro e; exact h5 c rfl (by rw [hd]; exact e.symm ▸ rfl))).1
    (try (simp -implicitDefEqProofs (maxSteps := 2000000) (disch := first | omega | (simp only [vz_push, vz_set, drop_size]; first | done | omega)) only [push_cast, seval, f43N0, f43N1, f43N2, n1, n3, z4, z5])) <;> (repeat' ((first | apply ga_dec | apply ga_ndec | apply cd_dec | apply cd_ndec | apply gd_dec | apply gd_ndec | apply ga_split | apply cd_split | apply gd_split) <;> intro hc <;> try (simp -implicitDefEqProofs (maxSteps := 2000000) (disch := first | omega | (simp only [vz_push, vz_set, drop_size]; first | done | omega)) only [push_cast, seval, f43N0, f43N1, f43N2, hc, n1, n3, z4, z5])))
    refine ⟨by cases h4b <;> rfl, ?_⟩
    have hv2b := fun e : blkOf vw = some b => hvb e
    have hs2 := m2.1
    simp only [vz_set] at hs2
    obtain ⟨v3, s3, k1, k2, k3, k4, a3, c3, rfl⟩ := ((h4b.set (c := b) hvb (.own ⟨[LS (appS now.1 p gone.length come), .c (.int .i64 at1), vw, .sl a2 n2 c2, .c (.int .i64 most)], 112, 0, 0, false⟩)).push (.own ⟨[.c (.int .i64 p), LS gone, LS come, .c (.int .i64 now.2)], 118, 0, 0, false⟩)).append1 (te := ⟨.struct #[⟨"place", 3, 0, false, "", "dactyl/undo", 0⟩, ⟨"gone", 22, 1, false, "", "dactyl/undo", 8⟩, ⟨"come", 22, 2, false, "", "dactyl/undo", 32⟩, ⟨"at", 3, 3, false, "", "dactyl/undo", 56⟩], 4, 64, .agg #[.int .i64 0, .slice none 0 0, .slice none 0 0, .int .i64 0]⟩) len_eT ((p : Int), gone, come, now.2) (by simp only [vz_push, vz_set]; omega) rfl rfl (room_ok (by constructor <;> (try dsimp only) <;> omega))
    have k1' : appendToA _ 118 1 [AV.c (.int .i64 p), LS gone, LS come, AV.c (.int .i64 now.2)] vw _ = _ := k1
    rw [k1', ct_some]
    have u1 : s3.get b = some (.own ⟨[LS (appS now.1 p gone.length come), .c (.int .i64 at1), vw, .sl a2 n2 c2, .c (.int .i64 most)], 112, 0, 0, false⟩) := by
      rw [(k3.2 b (by simp only [vz_push, vz_set]; omega) hvb).1, gp_ne (by simp only [vz_set]; omega)]
      exact gs_eq rfl z4
    have z6 := VS.lt_of_get u1
    have u2 := (k3.2 b (by simp only [vz_push, vz_set]; omega) hvb).2
    simp only [vp_ver, vs_ver] at u2
    (try (simp -implicitDefEqProofs (maxSteps := 2000000) (disch := first | omega | (simp only [vz_push, vz_set, drop_size]; first | done | omega)) only [push_cast, seval, f43N0, f43N1, f43N2, u1, u2, z6])) <;> (repeat' ((first | apply ga_dec | apply ga_ndec | apply cd_dec | apply cd_ndec | apply gd_dec | apply gd_ndec | apply ga_split | apply cd_split | apply gd_split) <;> intro hc <;> try (simp -implicitDefEqProofs (maxSteps := 2000000) (disch := first | omega | (simp only [vz_push, vz_set, drop_size]; first | done | omega)) only [push_cast, seval, f43N0, f43N1, f43N2, hc, u1, u2, z6])))
    have sepd : ∀ d, blkOf (.sl a2 n2 c2) = some d → blkOf vw ≠ some d := fun d hd he => by
      have := (h4.blk he).2.1
      exact h5 d (m3 d (by simp only [vz_set]; omega) hd) he
    have neb := Trl.ne n1 m1
    refine hK _ ⟨_, _, gs_eq rfl z6, h2, k2.set (fun e => hvb (k4 b (by simp only [vz_push, vz_set]; omega) e)) _, m1.get fun d hd => ?_, fun d hd he => sepd d he (k4 d (by have := (m1.blk he).2.1; simp only [vz_push, vz_set]; omega) hd)⟩ (((((((((((Ft.refl s b).push _).setn (Nat.le_refl _) _).push _).all (.inl rfl) (by simp only [vz_push, vz_set]; omega) r3).setn (Nat.le_refl _) _).but (fun d _ hd => by simp [blkOf] at hd; subst hd; exact ⟨_, q1, rfl⟩) m2).setb _).push _).but (fun d _ hd => (h4.blk hd).2.2) k3).setb _)
    have hdb : d ≠ b := fun e => neb (by rw [hd, e])
    have hds := (m1.blk hd).2.1
    rw [gs_ne hdb, (k3.2 d (by simp only [vz_push, vz_set]; omega) (sepd d hd)).1, gp_ne (by simp only [vz_set]; omega), gs_ne hdb]
end
end Go.Proofs.Ytndedkpcfjnecaa.Ab
