/- A history's lines: WriteByte, esc.Line. -/
import Derived.Test.YticllcglldbffaaQ1
import Derived.Test.YticllcglldbffaaG1
import Derived.Test.YticllcglldbffaaG5
namespace Go.Proofs.Yticllcglldbffaa.Ab
open Go.Proofs
set_option maxRecDepth 100000
set_option maxHeartbeats 4000000
set_option linter.unusedSimpArgs false
set_option linter.unusedVariables false
set_option linter.unnecessarySimpa false
set_option linter.unusedSectionVars false
section
variable {k : Nat → List Value → Option Value} (hk : ∀ f, f ≠ 32 → f ≠ 51 → Open k f)
include hk
theorem sbByte_ok {g : Bool} {s0 s : VS} {b : Nat} {l : List UInt8} (h : Bd g s0 s b l) (w : UInt8) (hl : l.length + 1 ≤ 70368744177664) {K : AV → VS → Prop}
    (hK : ∀ s' r, Bd g s0 s' b (l ++ [w]) → Fb s s' b → (KeepA s0 s → KeepA s0 s') → K r s') : VC (XK k) 20 [.ptr ⟨b, 0, none⟩, .c (.int .u8 w.toNat)] s K := by
  refine f20_in (hk _ (by decide) (by decide)) ?_
  have hbs := h.lt
  simp -implicitDefEqProofs (maxSteps := 2000000) (disch := first | omega | (simp only [vz_push, vz_set, drop_size]; first | done | omega)) only [push_cast, seval, f20N0]
  refine sbCheck_ok hk h ?_
  intro s1 v h1 h2 h3 h4
  have hb := VS.lt_of_get h1
  have h2' : Bf g s0 (s1.push (.own ⟨[.c (.int .u8 w.toNat)], 5, 0, 0, false⟩)) v l := h2.fr fun c r hc _ => gp_ne (by have := VS.lt_of_get hc; omega)
  obtain ⟨v', s2, q1, q2, q3, q4, q5⟩ := h2'.app (te := ⟨.int .u8, 1, 1, .int .u8 0⟩) (w := [w]) (by rw [vz_push]; omega) rfl (room_ok (by constructor <;> (try dsimp only) <;> (simp; omega)))
  have h5 := (q4 b _ ((gp_ne (by omega)).trans h1) (fun r hr => by cases hr; exact (by decide : (45 : Nat) ≠ 5)))
  have hb2 := VS.lt_of_get h5.1
  have q1' : appendToA ⟨.int .u8, 1, 1, .int .u8 0⟩ 5 1 [.c (.int .u8 w.toNat)] v (s1.push (.own ⟨[.c (.int .u8 w.toNat)], 5, 0, 0, false⟩)) = some (v', s2) := q1
  have fin : ∀ r, K r (s2.set b (.own ⟨[.ptr ⟨b, 0, none⟩, v'], 45, 0, 0, false⟩)) := fun r => by
    refine hK _ r ⟨.ptr ⟨b, 0, none⟩, v', gs_eq rfl hb2, hbs.1, .inr rfl, q2.fr fun c r hc he => gs_ne ?_⟩ ⟨by rw [vz_set]; rw [vz_push] at q3; omega, fun c o hc hne hr => ?_⟩ fun hk0 => ?_
    · rintro rfl
      rw [h5.1] at hc
      cases hc
      exact absurd (show (45 : Nat) = 5 from he) (by decide)
    · have e1 := h4 c hne
      have hlt := VS.lt_of_get (e1.1.trans hc)
      have e2 := q4 c o ((gp_ne (by omega)).trans (e1.1.trans hc)) hr
      exact ⟨by rw [gs_ne hne]; exact e2.1, by rw [vs_ver hne, e2.2, vp_ver, e1.2]⟩
    · refine ⟨by rw [vz_set]; have := hk0.1; rw [vz_push] at q3; omega, fun c hc => ?_⟩
      have hne : c ≠ b := by omega
      have e1 := h4 c hne
      have e2 := q5 c hc
      have e3 := hk0.2 c hc
      exact ⟨by rw [gs_ne hne, e2.1, gp_ne (by omega), e1.1, e3.1], by rw [vs_ver hne, e2.2, vp_ver, e1.2, e3.2]⟩
  rcases q2.isV with rfl | ⟨a, n, c, rfl⟩
  · simp -implicitDefEqProofs (maxSteps := 2000000) (disch := first | omega | (simp only [vz_push, vz_set, drop_size]; first | done | omega)) only [push_cast, seval, f20N0, h1, q1', h5.1]
    exact fin _
  · simp -implicitDefEqProofs (maxSteps := 2000000) (disch := first | omega | (simp only [vz_push, vz_set, drop_size]; first | done | omega)) only [push_cast, seval, f20N0, h1, q1', h5.1]
    exact fin _
theorem sbByteI_ok {g : Bool} {s0 s : VS} {b : Nat} {l : List UInt8} (h : Bd g s0 s b l) (n : Int) (h0 : 0 ≤ n) (h1 : n < 256) (hl : l.length + 1 ≤ 70368744177664) {K : AV → VS → Prop}
    (hK : ∀ s' r, Bd g s0 s' b (l ++ [UInt8.ofNat n.toNat]) → Fb s s' b → (KeepA s0 s → KeepA s0 s') → K r s') : VC (XK k) 20 [.ptr ⟨b, 0, none⟩, .c (.int .u8 n)] s K := by
  have e : n = ((UInt8.ofNat n.toNat).toNat : Int) := by rw [UInt8.toNat_ofNat_of_lt' (by simp; omega)]; omega
  generalize UInt8.ofNat n.toNat = w at e hK
  subst e
  exact sbByte_ok hk h w hl hK
theorem escLine_ok (hrep : ∀ d : Nat, d ≤ 16 → PC (XK k) 32 [tx [48], .c (.int .i64 d)] (tx (List.replicate d 48))) (l : List (Int × Int)) (hn : l.length ≤ 1000) :
    PC (XK k) 10 [LS l] (if l.all rightS = true then .tup [tx (escL (l.map (·.1))), .c (.int .i64 0)] else .tup [tx [], .c (.int .i64 2)]) := by
  refine PC_of fun st => ?_
  refine f10_in (hk _ (by decide) (by decide)) ?_
  have w := check_ok hk l (by omega)
  by_cases hal : l.all rightS = true
  · rw [if_pos hal] at w ⊢
    repeat' (first | ((first | apply ga_dec | apply ga_ndec | apply cd_dec | apply cd_ndec | apply gd_dec | apply gd_ndec | apply ga_split | apply cd_split | apply gd_split) <;> intro hc <;> (try (simp -implicitDefEqProofs (maxSteps := 2000000) (disch := first | omega | (simp only [vz_push, vz_set, drop_size]; first | done | omega)) only [push_cast, seval, f10N0, f10N1, f10N2, f10N3, hc])) <;> (try (exfalso; omega))) | refine VC_pure (w) ?_ | (simp -implicitDefEqProofs (maxSteps := 2000000) (disch := first | omega | (simp only [vz_push, vz_set, drop_size]; first | done | omega)) only [push_cast, seval, f10N0, f10N1, f10N2, f10N3]))
    have hz := KeepA.refl st
    have har : (l.map (·.1)).all right = true := by
      rw [List.all_eq_true] at hal ⊢
      intro v hv
      obtain ⟨p, hp, rfl⟩ := List.mem_map.1 hv
      have := hal p hp
      simp only [rightS, Bool.and_eq_true] at this
      exact this.1.1
    obtain ⟨s1, hs1⟩ : ∃ s1, s1 = st := ⟨_, rfl⟩
    have hlen : ∀ i, (escL ((l.take i).map (·.1))).length ≤ 8000 := fun i => by
      have := (escL_len (l := (l.take i).map (·.1)) (by
        rw [List.all_eq_true] at har ⊢
        intro v hv
        obtain ⟨p, hp, rfl⟩ := List.mem_map.1 hv
        exact har _ (List.mem_map.2 ⟨p, List.mem_of_mem_take hp, rfl⟩))).2
      rw [List.length_map, List.length_take] at this
      omega
    refine VW_iter (fun m ρ s' => ∃ i : Nat, m = l.length - i ∧ i ≤ l.length ∧ ρ.get 4 = .ptr ⟨st.size, 0, none⟩ ∧ ρ.get 10 = LS l ∧ ρ.get 11 = .c (.int .i64 l.length) ∧ ρ.get 12 = .c (.int .i64 i) ∧ (Bd false st s' st.size (escL ((l.take i).map (·.1)))) ∧ (KeepA st s')) (l.length) ⟨0, rfl, Nat.zero_le _, by (((try simp -implicitDefEqProofs only [eA_tmp, eA_const, AEnv.get_set, ofA_get, List.getD_cons_zero, List.getD_cons_succ, ↓reduceIte, reduceCtorEq, Nat.reduceEqDiff]); try (first | (with_reducible assumption) | (with_reducible rfl) | (congr 2 <;> omega) | rfl))), by (((try simp -implicitDefEqProofs only [eA_tmp, eA_const, AEnv.get_set, ofA_get, List.getD_cons_zero, List.getD_cons_succ, ↓reduceIte, reduceCtorEq, Nat.reduceEqDiff]); try (first | (with_reducible assumption) | (with_reducible rfl) | (congr 2 <;> omega) | rfl))), by (((try simp -implicitDefEqProofs only [eA_tmp, eA_const, AEnv.get_set, ofA_get, List.getD_cons_zero, List.getD_cons_succ, ↓reduceIte, reduceCtorEq, Nat.reduceEqDiff]); try (first | (with_reducible assumption) | (with_reducible rfl) | (congr 2 <;> omega) | rfl))), by (((try simp -implicitDefEqProofs only [eA_tmp, eA_const, AEnv.get_set, ofA_get, List.getD_cons_zero, List.getD_cons_succ, ↓reduceIte, reduceCtorEq, Nat.reduceEqDiff]); try (first | (with_reducible assumption) | (with_reducible rfl) | (congr 2 <;> omega) | rfl))), Bd.new (Nat.le_refl _), by (repeat first | assumption | exact KeepA.refl _ | apply KeepA.push | refine KeepA.set ?_ (by first | omega | (simp only [vz_push, vz_set, drop_size]; omega) | (have h9 := KeepA.size_le (by assumption); (try simp only [vz_push, vz_set, drop_size] at *); omega)) _ | refine KeepA.drop ?_ (by first | omega | (simp only [vz_push, vz_set, drop_size]; omega) | (have h9 := KeepA.size_le (by assumption); (try simp only [vz_push, vz_set, drop_size] at *); omega)) | refine KeepA.trans ?_ (by assumption))⟩ ?_
    rintro m ρ s' ⟨i, rfl, hi, g4, g10, g11, g12, j1, j2⟩
    by_cases c1 : i < l.length
    · have he := List.getElem?_eq_getElem c1
      have hm : rightS l[i] = true := List.all_eq_true.1 hal _ (List.getElem_mem c1)
      generalize l[i] = p at he hm
      obtain ⟨v, lb⟩ := p
      have hr : right v = true := by
        simp only [rightS, Bool.and_eq_true] at hm
        exact hm.1.1
      have hrg := right_rg hr
      have hsn : escL ((l.take (i + 1)).map (·.1)) = escL ((l.take i).map (·.1)) ++ escV v := by
        rw [take_snoc he, List.map_append, List.map_singleton, escL_snoc]
      have hl1 := hlen i
      have hlt := j1.lt
      have hb2 : Bd false st ((s'.push (.own ⟨eS (0, 0), 41, 0, 0, false⟩)).set s'.size (.own ⟨eS (v, lb), 41, 0, 0, false⟩)) st.size (escL ((l.take i).map (·.1))) := (j1.push _).set (gp_eq rfl) (by omega) (fun r hr => by cases hr; exact (by decide)) _
      repeat' (first | ((first | apply ga_dec | apply ga_ndec | apply cd_dec | apply cd_ndec | apply gd_dec | apply gd_ndec | apply ga_split | apply cd_split | apply gd_split) <;> intro hc <;> (try (simp -implicitDefEqProofs (maxSteps := 2000000) (disch := first | omega | (simp only [vz_push, vz_set, drop_size]; first | done | omega)) only [push_cast, seval, f10N0, f10N1, f10N2, f10N3, hc, g4, g10, g11, g12, he, eS])) <;> (try (exfalso; omega))) | (simp -implicitDefEqProofs (maxSteps := 2000000) (disch := first | omega | (simp only [vz_push, vz_set, drop_size]; first | done | omega)) only [push_cast, seval, f10N0, f10N1, f10N2, f10N3, g4, g10, g11, g12, he, eS]))
      all_goals (try (exfalso; omega))
      · obtain rfl : v = 92 := by omega
        refine sbWrite_ok hk hb2 [92, 92] (by simp only [List.length_cons, List.length_nil]; omega) ?_
        intro s2 r q1 q2 q3
        (try (simp -implicitDefEqProofs (maxSteps := 2000000) (disch := first | omega | (simp only [vz_push, vz_set, drop_size]; first | done | omega)) only [push_cast, seval, f10N0, f10N1, f10N2, f10N3, g4, g10, g11, g12])) <;> (repeat' ((first | apply ga_dec | apply ga_ndec | apply cd_dec | apply cd_ndec | apply gd_dec | apply gd_ndec | apply ga_split | apply cd_split | apply gd_split) <;> intro hc <;> try (simp -implicitDefEqProofs (maxSteps := 2000000) (disch := first | omega | (simp only [vz_push, vz_set, drop_size]; first | done | omega)) only [push_cast, seval, f10N0, f10N1, f10N2, f10N3, hc, g4, g10, g11, g12])))
        exact ⟨_ - (i + 1), by omega, i + 1, rfl, by omega, congrArg (fun z => AV.c (.int .i64 z)) (by omega), by rw [hsn]; exact q1, q3 (by (repeat first | assumption | exact KeepA.refl _ | apply KeepA.push | refine KeepA.set ?_ (by first | omega | (simp only [vz_push, vz_set, drop_size]; omega) | (have h9 := KeepA.size_le (by assumption); (try simp only [vz_push, vz_set, drop_size] at *); omega)) _ | refine KeepA.drop ?_ (by first | omega | (simp only [vz_push, vz_set, drop_size]; omega) | (have h9 := KeepA.size_le (by assumption); (try simp only [vz_push, vz_set, drop_size] at *); omega)) | refine KeepA.trans ?_ (by assumption)))⟩
      · refine sbByteI_ok hk hb2 v (by omega) (by omega) (by omega) ?_
        intro s2 r q1 q2 q3
        (try (simp -implicitDefEqProofs (maxSteps := 2000000) (disch := first | omega | (simp only [vz_push, vz_set, drop_size]; first | done | omega)) only [push_cast, seval, f10N0, f10N1, f10N2, f10N3, g4, g10, g11, g12])) <;> (repeat' ((first | apply ga_dec | apply ga_ndec | apply cd_dec | apply cd_ndec | apply gd_dec | apply gd_ndec | apply ga_split | apply cd_split | apply gd_split) <;> intro hc <;> try (simp -implicitDefEqProofs (maxSteps := 2000000) (disch := first | omega | (simp only [vz_push, vz_set, drop_size]; first | done | omega)) only [push_cast, seval, f10N0, f10N1, f10N2, f10N3, hc, g4, g10, g11, g12])))
        refine ⟨_ - (i + 1), by omega, i + 1, rfl, by omega, congrArg (fun z => AV.c (.int .i64 z)) (by omega), ?_, q3 (by (repeat first | assumption | exact KeepA.refl _ | apply KeepA.push | refine KeepA.set ?_ (by first | omega | (simp only [vz_push, vz_set, drop_size]; omega) | (have h9 := KeepA.size_le (by assumption); (try simp only [vz_push, vz_set, drop_size] at *); omega)) _ | refine KeepA.drop ?_ (by first | omega | (simp only [vz_push, vz_set, drop_size]; omega) | (have h9 := KeepA.size_le (by assumption); (try simp only [vz_push, vz_set, drop_size] at *); omega)) | refine KeepA.trans ?_ (by assumption)))⟩
        rw [hsn]
        unfold escV
        rw [if_neg (by omega), if_pos (by omega)]
        exact q1
      all_goals
        refine sbWrite_ok hk hb2 [92, 117] (by simp only [List.length_cons, List.length_nil]; omega) ?_
        intro s2 r q1 q2 q3
        have g6 := q2.get (c := s'.size) (gs_eq rfl (by rw [vz_push]; omega)) (by omega) (fun r hr => by cases hr; exact (by decide : (41 : Nat) ≠ 5))
        repeat' (first | ((first | apply ga_dec | apply ga_ndec | apply cd_dec | apply cd_ndec | apply gd_dec | apply gd_ndec | apply ga_split | apply cd_split | apply gd_split) <;> intro hc <;> (try (simp -implicitDefEqProofs (maxSteps := 2000000) (disch := first | omega | (simp only [vz_push, vz_set, drop_size]; first | done | omega)) only [push_cast, seval, f10N0, f10N1, f10N2, f10N3, hc, g4, g10, g11, g12, g6, eS])) <;> (try (exfalso; omega))) | refine VC_pure (hex_ok hk hrep v 6 (by omega)) ?_ | (simp -implicitDefEqProofs (maxSteps := 2000000) (disch := first | omega | (simp only [vz_push, vz_set, drop_size]; first | done | omega)) only [push_cast, seval, f10N0, f10N1, f10N2, f10N3, g4, g10, g11, g12, g6, eS]))
        rw [hexI_six hr]
        refine sbWrite_ok hk q1 (hexP v.toNat 6) (by rw [hex6_len (by omega), List.length_append]; simp only [List.length_cons, List.length_nil]; omega) ?_
        intro s3 r3 q4 q5 q6
        (try (simp -implicitDefEqProofs (maxSteps := 2000000) (disch := first | omega | (simp only [vz_push, vz_set, drop_size]; first | done | omega)) only [push_cast, seval, f10N0, f10N1, f10N2, f10N3, g4, g10, g11, g12])) <;> (repeat' ((first | apply ga_dec | apply ga_ndec | apply cd_dec | apply cd_ndec | apply gd_dec | apply gd_ndec | apply ga_split | apply cd_split | apply gd_split) <;> intro hc <;> try (simp -implicitDefEqProofs (maxSteps := 2000000) (disch := first | omega | (simp only [vz_push, vz_set, drop_size]; first | done | omega)) only [push_cast, seval, f10N0, f10N1, f10N2, f10N3, hc, g4, g10, g11, g12])))
        refine ⟨_ - (i + 1), by omega, i + 1, rfl, by omega, congrArg (fun z => AV.c (.int .i64 z)) (by omega), ?_, q6 (q3 (by (repeat first | assumption | exact KeepA.refl _ | apply KeepA.push | refine KeepA.set ?_ (by first | omega | (simp only [vz_push, vz_set, drop_size]; omega) | (have h9 := KeepA.size_le (by assumption); (try simp only [vz_push, vz_set, drop_size] at *); omega)) _ | refine KeepA.drop ?_ (by first | omega | (simp only [vz_push, vz_set, drop_size]; omega) | (have h9 := KeepA.size_le (by assumption); (try simp only [vz_push, vz_set, drop_size] at *); omega)) | refine KeepA.trans ?_ (by assumption))))⟩
        rw [hsn]
        unfold escV
        rw [if_neg (by omega), if_neg (by omega)]
        rw [List.append_assoc] at q4
        exact q4
    · have hi2 : i = l.length := by omega
      subst hi2
      rw [List.take_length] at j1
      have hl1 := hlen l.length
      rw [List.take_length] at hl1
      repeat' (first | ((first | apply ga_dec | apply ga_ndec | apply cd_dec | apply cd_ndec | apply gd_dec | apply gd_ndec | apply ga_split | apply cd_split | apply gd_split) <;> intro hc <;> (try (simp -implicitDefEqProofs (maxSteps := 2000000) (disch := first | omega | (simp only [vz_push, vz_set, drop_size]; first | done | omega)) only [push_cast, seval, f10N0, f10N1, f10N2, f10N3, hc, g4, g10, g11, g12])) <;> (try (exfalso; omega))) | (simp -implicitDefEqProofs (maxSteps := 2000000) (disch := first | omega | (simp only [vz_push, vz_set, drop_size]; first | done | omega)) only [push_cast, seval, f10N0, f10N1, f10N2, f10N3, g4, g10, g11, g12]))
      all_goals (try (exfalso; omega))
      refine sbString_ok hk j1 (.inl rfl) (by omega) ?_
      intro s2 q1 q2
      (try (simp -implicitDefEqProofs (maxSteps := 2000000) (disch := first | omega | (simp only [vz_push, vz_set, drop_size]; first | done | omega)) only [push_cast, seval, f10N0, f10N1, f10N2, f10N3])) <;> (repeat' ((first | apply ga_dec | apply ga_ndec | apply cd_dec | apply cd_ndec | apply gd_dec | apply gd_ndec | apply ga_split | apply cd_split | apply gd_split) <;> intro hc <;> try (simp -implicitDefEqProofs (maxSteps := 2000000) (disch := first | omega | (simp only [vz_push, vz_set, drop_size]; first | done | omega)) only [push_cast, seval, f10N0, f10N1, f10N2, f10N3, hc])))
      exact ⟨q2 j2, Se.firm (Firm.tup (all_cons (Firm.c _) (all_cons (Firm.c _) all_nil)))⟩
  · rw [if_neg hal] at w ⊢
    repeat' (first | ((first | apply ga_dec | apply ga_ndec | apply cd_dec | apply cd_ndec | apply gd_dec | apply gd_ndec | apply ga_split | apply cd_split | apply gd_split) <;> intro hc <;> (try (simp -implicitDefEqProofs (maxSteps := 2000000) (disch := first | omega | (simp only [vz_push, vz_set, drop_size]; first | done | omega)) only [push_cast, seval, f10N0, f10N1, f10N2, f10N3, hc])) <;> (try (exfalso; omega))) | refine VC_pure (w) ?_ | (simp -implicitDefEqProofs (maxSteps := 2000000) (disch := first | omega | (simp only [vz_push, vz_set, drop_size]; first | done | omega)) only [push_cast, seval, f10N0, f10N1, f10N2, f10N3]))
    exact ⟨by (repeat first | assumption | exact KeepA.refl _ | apply KeepA.push | refine KeepA.set ?_ (by first | omega | (simp only [vz_push, vz_set, drop_size]; omega) | (have h9 := KeepA.size_le (by assumption); (try simp only [vz_push, vz_set, drop_size] at *); omega)) _ | refine KeepA.drop ?_ (by first | omega | (simp only [vz_push, vz_set, drop_size]; omega) | (have h9 := KeepA.size_le (by assumption); (try simp only [vz_push, vz_set, drop_size] at *); omega)) | refine KeepA.trans ?_ (by assumption)), Se.firm (Firm.tup (all_cons (Firm.c _) (all_cons (Firm.c _) all_nil)))⟩
end
end Go.Proofs.Yticllcglldbffaa.Ab
