/- The law ViewApart. -/
import Derived.Test.YtpckldhojfjdmaaDoorN6
import Derived.Test.YtpckldhojfjdmaaDoorL1
import Derived.Test.YtpckldhojfjdmaaDoorDE
namespace Go.Proofs.YtpckldhojfjdmaaDoor.Ab
open Go.Proofs
set_option maxRecDepth 100000
set_option maxHeartbeats 4000000
set_option linter.unusedSimpArgs false
set_option linter.unusedVariables false
set_option linter.unnecessarySimpa false
set_option linter.unusedSectionVars false
/-- A cell's looks: what an eye tells apart. -/
def eye (c : Cl) : Int × Int := (c.1, c.2.1)
theorem eye_tell (a own v : Int) : ∀ (l : List UInt8) (i : Nat), (tellC a own v i l).map eye = l.map fun c => ((c.toNat : Int), a)
  | [], i => rfl
  | c :: l, i => by rw [tellC, List.map_cons, eye_tell a own v l, List.map_cons]; rfl
theorem dig_no62 {n : Nat} (h : n < 16) : dig n ≠ 62 := fun e => by
  have := dig_nat h
  rw [e] at this
  have e62 : (62 : UInt8).toNat = 62 := rfl
  rw [e62] at this
  split at this <;> omega
theorem digs_no62 : ∀ (m n : Nat), n ≤ m → (62 : UInt8) ∉ digs 16 n
  | m, n, hm => by
    by_cases h : n < 16
    · rw [digs_lt h]; simp [Ne.symm (dig_no62 h)]
    · match m, hm with
      | 0, hm => omega
      | m + 1, hm =>
        rw [digs_ge (by omega) (by omega), List.mem_append]
        have h1 := digs_no62 m (n / 16) (by omega)
        have h2 := dig_no62 (Nat.mod_lt n (by omega : 16 > 0))
        simp [h1, Ne.symm h2]
theorem hex_no62 (n l : Nat) : (62 : UInt8) ∉ hexP n l := fun h => by
  unfold hexP at h
  rw [List.mem_append, List.mem_replicate] at h
  rcases h with ⟨_, h⟩ | h
  · exact absurd h (by decide)
  · exact digs_no62 n n (Nat.le_refl _) h
/-- No text that is told begins another. -/
theorem text_pre {v w : Int} (hv : dangerV v = true) (hw : dangerV w = true) {r : List UInt8} (h : textV w = textV v ++ r) : r = [] := by
  obtain ⟨c1, c2, c3, c4, c5, c6, c7, c8⟩ := cls v
  obtain ⟨d1, d2, d3, d4, d5, d6, d7, d8⟩ := cls w
  simp only [dangerV, decide_eq_true_eq] at hv hw
  have h16 : ∀ {x : Int}, 1114240 ≤ x → x ≤ 1114367 → (hexP (x.toNat - 1114112) 2).length = 2 := fun {x} h1 h2 => by
    have := hexP_len16 (x.toNat - 1114112) 2 1 (by omega) (by omega)
    omega
  have ap : ∀ {a b : UInt8} {x y : List UInt8}, a :: x = b :: y → a = b := fun h => (List.cons.inj h).1
  unfold textV at h
  rw [if_neg (by omega), if_neg (by omega), if_neg (by omega : ¬ classOf v = 0), if_neg (by omega : ¬ classOf v ≤ 3)] at h
  have hnil : ∀ {a b c d : UInt8} {r : List UInt8}, [a, b] = [c, d] ++ r → r = [] := fun h => (List.cons.inj (List.cons.inj h).2).2.symm
  split at h
  · split at h
    · exact hnil h
    · split at h
      · exact hnil h
      · split at h
        · exact absurd (ap h) (by decide)
        · exact absurd (ap h) (by decide)
  · split at h
    · split at h
      · exact hnil h
      · split at h
        · exact hnil h
        · split at h
          · exact absurd (ap h) (by decide)
          · exact absurd (ap h) (by decide)
    · split at h
      · split at h
        · exact absurd (ap h) (by decide)
        · split at h
          · exact absurd (ap h) (by decide)
          · split at h
            · have e1 := h16 (x := v) (by omega) (by omega)
              have e2 := h16 (x := w) (by omega) (by omega)
              have := congrArg List.length h
              simp only [List.length_append, List.length_cons, List.length_nil] at this
              exact List.length_eq_zero_iff.1 (by omega)
            · exact absurd (ap h) (by decide)
      · split at h
        · exact absurd (ap h) (by decide)
        · split at h
          · exact absurd (ap h) (by decide)
          · split at h
            · exact absurd (ap h) (by decide)
            · rcases List.eq_nil_or_concat r with rfl | ⟨r', b, rfl⟩
              · rfl
              · exfalso
                rw [List.concat_eq_append] at h
                rw [List.append_assoc, List.append_assoc, List.append_assoc] at h
                have h := List.append_cancel_left h
                rw [← List.append_assoc, ← List.append_assoc] at h
                have h := (List.append_inj' h rfl).1
                exact hex_no62 w.toNat 4 (h ▸ by simp)
theorem text_cut {v w : Int} (hv : dangerV v = true) (hw : dangerV w = true) {g : UInt8 → Int × Int} (hg : ∀ a b, g a = g b → a = b) {x y : List (Int × Int)}
    (h : (textV v).map g ++ x = (textV w).map g ++ y) : textV v = textV w ∧ x = y := by
  rcases List.append_eq_append_iff.1 h with ⟨a', e1, e2⟩ | ⟨a', e1, e2⟩
  · obtain ⟨l1, l2, f1, f2, f3⟩ := List.map_eq_append_iff.1 e1
    have f2 := List.map_inj_right hg |>.1 f2
    have := text_pre hv hw (f2 ▸ f1)
    subst this
    subst f3
    exact ⟨by rw [f1, f2, List.append_nil], by simpa using e2⟩
  · obtain ⟨l1, l2, f1, f2, f3⟩ := List.map_eq_append_iff.1 e1
    have f2 := List.map_inj_right hg |>.1 f2
    have := text_pre hw hv (f2 ▸ f1)
    subst this
    subst f3
    exact ⟨by rw [f1, f2, List.append_nil], by simpa using e2.symm⟩
theorem looks_bit (p : Int × Int) : looksS p % 2 = if dangerV p.1 then 1 else 0 := by
  unfold looksS
  (repeat' split) <;> omega
theorem eye_cells (p q : Int × Int) (o1 o2 : Int) (h1 : p.1 = q.1) (h2 : looksS p = looksS q) : (cellsS p o1).map eye = (cellsS q o2).map eye := by
  unfold cellsS
  rw [h1, h2]
  split
  · rw [eye_tell, eye_tell]
  · split
    · rfl
    · split <;> rfl
/-- Cells that look alike are of like values. -/
theorem eye_cut {p q : Int × Int} {o1 o2 : Int} (hp : right p.1 = true) (hq : right q.1 = true) {x y : List (Int × Int)} (h : (cellsS p o1).map eye ++ x = (cellsS q o2).map eye ++ y) : p.1 = q.1 ∧ x = y := by
  obtain ⟨c1, c2, c3, c4, c5, c6, c7, c8⟩ := cls p.1
  obtain ⟨d1, d2, d3, d4, d5, d6, d7, d8⟩ := cls q.1
  have p1 := c8.2 hp
  have q1 := d8.2 hq
  have hl : ∀ {p : Int × Int} {o : Int}, 1 ≤ classOf p.1 → ∃ c l, (cellsS p o).map eye = (c, looksS p) :: l ∧ (dangerV p.1 = false → c = p.1) := fun {p o} h => by
    unfold cellsS
    cases hd : dangerV p.1
    · rw [if_neg (by simp), if_neg (by omega)]
      exact ⟨_, _, rfl, fun _ => rfl⟩
    · rw [if_pos rfl, eye_tell]
      have := danger_text p.1 hd
      cases ht : textV p.1 with
      | nil => rw [ht] at this; simp at this
      | cons a l => exact ⟨_, _, rfl, fun h => by simp at h⟩
  obtain ⟨cp, lp, e1, m1⟩ := hl (p := p) (o := o1) (by omega)
  obtain ⟨cq, lq, e2, m2⟩ := hl (p := q) (o := o2) (by omega)
  have h0 := h
  rw [e1, e2] at h0
  have hh := (List.cons.inj h0).1
  have hlk : looksS p = looksS q := (Prod.mk.inj hh).2
  have hb1 := looks_bit p
  have hb2 := looks_bit q
  have hdd : dangerV p.1 = dangerV q.1 := by
    rw [hlk, hb2] at hb1
    cases h1 : dangerV p.1 <;> cases h2 : dangerV q.1 <;> simp [h1, h2] at hb1 ⊢
  have hv : p.1 = q.1 := by
    cases hd : dangerV p.1
    · rw [← m1 hd, ← m2 (hdd ▸ hd)]; exact (Prod.mk.inj hh).1
    · have hd2 : dangerV q.1 = true := hdd ▸ hd
      unfold cellsS at h
      rw [if_pos hd, if_pos hd2, eye_tell, eye_tell, hlk] at h
      have hc := (text_cut hd hd2 (fun a b hab => UInt8.toNat_inj.1 (by have := (Prod.mk.inj hab).1; omega)) h).1
      exact text_inj hp hq hdd hc
  rw [eye_cells p q o1 o2 hv hlk] at h
  exact ⟨hv, List.append_cancel_left h⟩
theorem eye_line : ∀ (a b : List (Int × Int)) (i j : Nat), a.all rightS = true → b.all rightS = true → (lineC i a).map eye = (lineC j b).map eye → a.map (·.1) = b.map (·.1)
  | [], [], _, _, _, _, _ => rfl
  | [], q :: b, i, j, _, hb, h => by
    have hq : right q.1 = true := by have := List.all_eq_true.1 hb q (by simp); unfold rightS at this; simp_all
    exfalso
    have := congrArg List.length h
    rw [lineC, lineC, List.map_append, List.length_append, List.length_map, List.length_map] at this
    have h1 := cellsS_len q j
    have h2 := (cls q.1).2.2.2.2.2.2.2.2 hq
    have h3 : 1 ≤ colsV q.1 := by
      unfold colsV
      cases hd : dangerV q.1
      · have := widthV_rng q.1 (by omega) (by simp only [dangerV, decide_eq_false_iff_not] at hd; omega)
        simp; omega
      · have := danger_text q.1 hd; simp; omega
    simp only [lineC, List.map_nil, List.length_nil] at this
    omega
  | p :: a, [], i, j, ha, _, h => by
    have hq : right p.1 = true := by have := List.all_eq_true.1 ha p (by simp); unfold rightS at this; simp_all
    exfalso
    have := congrArg List.length h
    rw [lineC, lineC, List.map_append, List.length_append, List.length_map, List.length_map] at this
    have h1 := cellsS_len p i
    have h2 := (cls p.1).2.2.2.2.2.2.2.2 hq
    have h3 : 1 ≤ colsV p.1 := by
      unfold colsV
      cases hd : dangerV p.1
      · have := widthV_rng p.1 (by omega) (by simp only [dangerV, decide_eq_false_iff_not] at hd; omega)
        simp; omega
      · have := danger_text p.1 hd; simp; omega
    simp only [lineC, List.map_nil, List.length_nil] at this
    omega
  | p :: a, q :: b, i, j, ha, hb, h => by
    have hp : right p.1 = true := by have := List.all_eq_true.1 ha p (by simp); unfold rightS at this; simp_all
    have hq : right q.1 = true := by have := List.all_eq_true.1 hb q (by simp); unfold rightS at this; simp_all
    rw [lineC, lineC, List.map_append, List.map_append] at h
    obtain ⟨e1, e2⟩ := eye_cut hp hq h
    rw [List.map_cons, List.map_cons, e1, eye_line a b (i + 1) (j + 1) (List.all_eq_true.2 fun x hx => List.all_eq_true.1 ha x (by simp [hx])) (List.all_eq_true.2 fun x hx => List.all_eq_true.1 hb x (by simp [hx])) e2]
theorem view_apart (p a b : List (Int × Int)) (ha : a.all rightS = true) (hb : b.all rightS = true) (h : lookSame (viewC p a) (viewC p b) = true) : a.map (·.1) = b.map (·.1) := by
  unfold lookSame at h
  have h := of_decide_eq_true h
  unfold viewC at h
  rw [List.map_append, List.map_append] at h
  exact eye_line a b 0 0 ha hb (List.append_cancel_left h)
section
variable {k : Nat → List Value → Option Value} (hk : ∀ f, f ≠ 95 → Open k f)
include hk
theorem rintsV_ok (a b : List Int) (hn : a.length < 1099511627776) : PC (XK k) 40 [LI a, LI b] (.c (.bool (decide (a = b)))) := by
  refine PC_of fun s => ?_
  refine f40_in (hk _ (by decide)) ?_
  by_cases hl : a.length = b.length
  · repeat' (first | ((first | apply ga_dec | apply ga_ndec | apply cd_dec | apply cd_ndec | apply gd_dec | apply gd_ndec | apply ga_split | apply cd_split | apply gd_split) <;> intro hc <;> (try (simp -implicitDefEqProofs (maxSteps := 2000000) (disch := first | omega | (simp only [vz_push, vz_set, drop_size]; done) | (simp only [vz_push, vz_set, drop_size]; omega)) only [push_cast, seval, f40N0, f40N1, f40N2, hc, hl])) <;> (try (exfalso; omega))) | (simp -implicitDefEqProofs (maxSteps := 2000000) (disch := first | omega | (simp only [vz_push, vz_set, drop_size]; done) | (simp only [vz_push, vz_set, drop_size]; omega)) only [push_cast, seval, f40N0, f40N1, f40N2, hl]))
    refine VW_iter (fun m ρ s' => ∃ i : Nat, m = a.length - i ∧ i ≤ a.length ∧ ρ.get 0 = LI a ∧ ρ.get 1 = LI b ∧ ρ.get 5 = .c (.int .i64 i) ∧ (∀ j, j < i → a[j]? = b[j]?) ∧ (KeepA s s')) (a.length) ⟨0, rfl, Nat.zero_le _, by (((try simp -implicitDefEqProofs only [eA_tmp, eA_const, AEnv.get_set, ofA_get, List.getD_cons_zero, List.getD_cons_succ, ↓reduceIte, reduceCtorEq, Nat.reduceEqDiff]); try (first | (with_reducible assumption) | (with_reducible rfl) | (congr 2 <;> omega) | rfl))), by (((try simp -implicitDefEqProofs only [eA_tmp, eA_const, AEnv.get_set, ofA_get, List.getD_cons_zero, List.getD_cons_succ, ↓reduceIte, reduceCtorEq, Nat.reduceEqDiff]); try (first | (with_reducible assumption) | (with_reducible rfl) | (congr 2 <;> omega) | rfl))), by (((try simp -implicitDefEqProofs only [eA_tmp, eA_const, AEnv.get_set, ofA_get, List.getD_cons_zero, List.getD_cons_succ, ↓reduceIte, reduceCtorEq, Nat.reduceEqDiff]); try (first | (with_reducible assumption) | (with_reducible rfl) | (congr 2 <;> omega) | rfl))), (by intro j h; omega), KeepA.refl _⟩ ?_
    rintro m ρ s' ⟨i, rfl, hi, g0, g1, g5, j1, j2⟩
    simp -implicitDefEqProofs (maxSteps := 2000000) (disch := first | omega | (simp only [vz_push, vz_set, drop_size]; done) | (simp only [vz_push, vz_set, drop_size]; omega)) only [push_cast, seval, f40N0, f40N1, f40N2, g0, g1, g5, hl]
    refine cd_dec (fun hc => ?_) (fun hc => ?_)
    · obtain ⟨x, hx⟩ : ∃ x, a[i]? = some x := ⟨_, List.getElem?_eq_getElem (by omega)⟩
      obtain ⟨y, hy⟩ : ∃ y, b[i]? = some y := ⟨_, List.getElem?_eq_getElem (by omega)⟩
      by_cases hxy : x = y
      · repeat' (first | ((first | apply ga_dec | apply ga_ndec | apply cd_dec | apply cd_ndec | apply gd_dec | apply gd_ndec | apply ga_split | apply cd_split | apply gd_split) <;> intro hc <;> (try (simp -implicitDefEqProofs (maxSteps := 2000000) (disch := first | omega | (simp only [vz_push, vz_set, drop_size]; done) | (simp only [vz_push, vz_set, drop_size]; omega)) only [push_cast, seval, f40N0, f40N1, f40N2, hc, g0, g1, g5, hx, hy, eI, hxy])) <;> (try (exfalso; omega))) | (simp -implicitDefEqProofs (maxSteps := 2000000) (disch := first | omega | (simp only [vz_push, vz_set, drop_size]; done) | (simp only [vz_push, vz_set, drop_size]; omega)) only [push_cast, seval, f40N0, f40N1, f40N2, g0, g1, g5, hx, hy, eI, hxy]))
        refine ⟨_ - (i + 1), by omega, i + 1, rfl, by omega, ?_⟩ <;> (try simp only [Int.natCast_add, Int.natCast_one, cast_lit, and_true, true_and, eq_self])
        refine ⟨fun j hj => ?_, j2⟩
        by_cases h : j < i
        · exact j1 j h
        · rw [show j = i by omega, hx, hy, hxy]
      · have hne : ¬ a = b := fun h => by rw [h, hy] at hx; exact hxy (Option.some.inj hx).symm
        repeat' (first | ((first | apply ga_dec | apply ga_ndec | apply cd_dec | apply cd_ndec | apply gd_dec | apply gd_ndec | apply ga_split | apply cd_split | apply gd_split) <;> intro hc <;> (try (simp -implicitDefEqProofs (maxSteps := 2000000) (disch := first | omega | (simp only [vz_push, vz_set, drop_size]; done) | (simp only [vz_push, vz_set, drop_size]; omega)) only [push_cast, seval, f40N0, f40N1, f40N2, hc, g0, g1, g5, hx, hy, eI, hxy, hne])) <;> (try (exfalso; omega))) | (simp -implicitDefEqProofs (maxSteps := 2000000) (disch := first | omega | (simp only [vz_push, vz_set, drop_size]; done) | (simp only [vz_push, vz_set, drop_size]; omega)) only [push_cast, seval, f40N0, f40N1, f40N2, g0, g1, g5, hx, hy, eI, hxy, hne]))
        exact out_bool (by (repeat first | assumption | exact KeepA.refl _ | apply KeepA.push | refine KeepA.set ?_ (by first | omega | (simp only [vz_push, vz_set, drop_size]; omega) | (have h9 := KeepA.size_le (by assumption); (try simp only [vz_push, vz_set, drop_size] at *); omega)) _ | refine KeepA.drop ?_ (by first | omega | (simp only [vz_push, vz_set, drop_size]; omega) | (have h9 := KeepA.size_le (by assumption); (try simp only [vz_push, vz_set, drop_size] at *); omega)) | refine KeepA.trans ?_ (by assumption))) rfl
    · have he : a = b := List.ext_getElem? fun j => by
        by_cases h : j < a.length
        · exact j1 j (by omega)
        · rw [List.getElem?_eq_none (by omega), List.getElem?_eq_none (by omega)]
      repeat' (first | ((first | apply ga_dec | apply ga_ndec | apply cd_dec | apply cd_ndec | apply gd_dec | apply gd_ndec | apply ga_split | apply cd_split | apply gd_split) <;> intro hc <;> (try (simp -implicitDefEqProofs (maxSteps := 2000000) (disch := first | omega | (simp only [vz_push, vz_set, drop_size]; done) | (simp only [vz_push, vz_set, drop_size]; omega)) only [push_cast, seval, f40N0, f40N1, f40N2, hc, g0, g1, g5, he])) <;> (try (exfalso; omega))) | (simp -implicitDefEqProofs (maxSteps := 2000000) (disch := first | omega | (simp only [vz_push, vz_set, drop_size]; done) | (simp only [vz_push, vz_set, drop_size]; omega)) only [push_cast, seval, f40N0, f40N1, f40N2, g0, g1, g5, he]))
      exact out_bool (by (repeat first | assumption | exact KeepA.refl _ | apply KeepA.push | refine KeepA.set ?_ (by first | omega | (simp only [vz_push, vz_set, drop_size]; omega) | (have h9 := KeepA.size_le (by assumption); (try simp only [vz_push, vz_set, drop_size] at *); omega)) _ | refine KeepA.drop ?_ (by first | omega | (simp only [vz_push, vz_set, drop_size]; omega) | (have h9 := KeepA.size_le (by assumption); (try simp only [vz_push, vz_set, drop_size] at *); omega)) | refine KeepA.trans ?_ (by assumption))) rfl
  · have hne : ¬ a = b := fun h => hl (by rw [h])
    repeat' (first | ((first | apply ga_dec | apply ga_ndec | apply cd_dec | apply cd_ndec | apply gd_dec | apply gd_ndec | apply ga_split | apply cd_split | apply gd_split) <;> intro hc <;> (try (simp -implicitDefEqProofs (maxSteps := 2000000) (disch := first | omega | (simp only [vz_push, vz_set, drop_size]; done) | (simp only [vz_push, vz_set, drop_size]; omega)) only [push_cast, seval, f40N0, f40N1, f40N2, hc, hl, hne])) <;> (try (exfalso; omega))) | (simp -implicitDefEqProofs (maxSteps := 2000000) (disch := first | omega | (simp only [vz_push, vz_set, drop_size]; done) | (simp only [vz_push, vz_set, drop_size]; omega)) only [push_cast, seval, f40N0, f40N1, f40N2, hl, hne]))
    exact out_bool (by (repeat first | assumption | exact KeepA.refl _ | apply KeepA.push | refine KeepA.set ?_ (by first | omega | (simp only [vz_push, vz_set, drop_size]; omega) | (have h9 := KeepA.size_le (by assumption); (try simp only [vz_push, vz_set, drop_size] at *); omega)) _ | refine KeepA.drop ?_ (by first | omega | (simp only [vz_push, vz_set, drop_size]; omega) | (have h9 := KeepA.size_le (by assumption); (try simp only [vz_push, vz_set, drop_size] at *); omega)) | refine KeepA.trans ?_ (by assumption))) rfl
theorem viewApart_ok (hrep : ∀ d : Nat, d ≤ 16 → PC (XK k) 95 [tx [48], .c (.int .i64 d)] (tx (List.replicate d 48))) (haw : k 44 [] = some (.bool true)) (p a b : List (Int × Int)) (s : VS) :
    VC (XK k) 12 [LS p, LS a, LS b] s fun r _ => r = .c (.bool true) := by
  have haw' : ∀ {vs : VS} {Q : AV → VS → Prop}, Q (.c (.bool true)) vs → VC (XK k) 44 [] vs Q := fun h => VC_known (ws := []) (v := .bool true) haw rfl rfl h
  refine f12_in (hk _ (by decide)) ?_
  by_cases hab : p.length ≤ 20 ∧ a.length ≤ 30 ∧ b.length ≤ 30
  · cases q0 : p.all rightS
    · repeat' (first | ((first | apply ga_dec | apply ga_ndec | apply cd_dec | apply cd_ndec | apply gd_dec | apply gd_ndec | apply ga_split | apply cd_split | apply gd_split) <;> intro hc <;> (try (simp -implicitDefEqProofs (maxSteps := 2000000) (disch := first | omega | (simp only [vz_push, vz_set, drop_size]; done) | (simp only [vz_push, vz_set, drop_size]; omega)) only [push_cast, seval, f12N0, f12N1, hc, q0])) <;> (try (exfalso; omega))) | refine haw' ?_ | refine VC_pure (all_ok hk _ (by omega)) ?_ | (simp -implicitDefEqProofs (maxSteps := 2000000) (disch := first | omega | (simp only [vz_push, vz_set, drop_size]; done) | (simp only [vz_push, vz_set, drop_size]; omega)) only [push_cast, seval, f12N0, f12N1, q0]))
    · cases q1 : a.all rightS
      · repeat' (first | ((first | apply ga_dec | apply ga_ndec | apply cd_dec | apply cd_ndec | apply gd_dec | apply gd_ndec | apply ga_split | apply cd_split | apply gd_split) <;> intro hc <;> (try (simp -implicitDefEqProofs (maxSteps := 2000000) (disch := first | omega | (simp only [vz_push, vz_set, drop_size]; done) | (simp only [vz_push, vz_set, drop_size]; omega)) only [push_cast, seval, f12N0, f12N1, hc, q0, q1])) <;> (try (exfalso; omega))) | refine haw' ?_ | refine VC_pure (all_ok hk _ (by omega)) ?_ | (simp -implicitDefEqProofs (maxSteps := 2000000) (disch := first | omega | (simp only [vz_push, vz_set, drop_size]; done) | (simp only [vz_push, vz_set, drop_size]; omega)) only [push_cast, seval, f12N0, f12N1, q0, q1]))
      · cases q2 : b.all rightS
        · repeat' (first | ((first | apply ga_dec | apply ga_ndec | apply cd_dec | apply cd_ndec | apply gd_dec | apply gd_ndec | apply ga_split | apply cd_split | apply gd_split) <;> intro hc <;> (try (simp -implicitDefEqProofs (maxSteps := 2000000) (disch := first | omega | (simp only [vz_push, vz_set, drop_size]; done) | (simp only [vz_push, vz_set, drop_size]; omega)) only [push_cast, seval, f12N0, f12N1, hc, q0, q1, q2])) <;> (try (exfalso; omega))) | refine haw' ?_ | refine VC_pure (all_ok hk _ (by omega)) ?_ | (simp -implicitDefEqProofs (maxSteps := 2000000) (disch := first | omega | (simp only [vz_push, vz_set, drop_size]; done) | (simp only [vz_push, vz_set, drop_size]; omega)) only [push_cast, seval, f12N0, f12N1, q0, q1, q2]))
        · have h1 := vof_ok hk hrep p a (by omega) (by omega)
          rw [if_pos ⟨q0, q1⟩, if_pos ⟨q0, q1⟩] at h1
          have h2 := vof_ok hk hrep p b (by omega) (by omega)
          rw [if_pos ⟨q0, q2⟩, if_pos ⟨q0, q2⟩] at h2
          have hva := view_apart p a b q1 q2
          have hlen : (viewC p a).length < 100000 := by
            have hpl := promptC_le p
            have hll := lineC_le a 0
            unfold viewC; rw [List.length_append]; omega
          generalize viewC p a = c at *
          generalize viewC p b = d at *
          cases hs : lookSame c d
          · repeat' (first | ((first | apply ga_dec | apply ga_ndec | apply cd_dec | apply cd_ndec | apply gd_dec | apply gd_ndec | apply ga_split | apply cd_split | apply gd_split) <;> intro hc <;> (try (simp -implicitDefEqProofs (maxSteps := 2000000) (disch := first | omega | (simp only [vz_push, vz_set, drop_size]; done) | (simp only [vz_push, vz_set, drop_size]; omega)) only [push_cast, seval, f12N0, f12N1, hc, q0, q1, q2, hs])) <;> (try (exfalso; omega))) | refine VC_pure (h1) ?_ | refine VC_pure (h2) ?_ | refine haw' ?_ | refine VC_pure (all_ok hk _ (by omega)) ?_ | refine VC_pure (rlook_ok hk c d (by omega)) ?_ | (simp -implicitDefEqProofs (maxSteps := 2000000) (disch := first | omega | (simp only [vz_push, vz_set, drop_size]; done) | (simp only [vz_push, vz_set, drop_size]; omega)) only [push_cast, seval, f12N0, f12N1, q0, q1, q2, hs]))
          · have he := hva hs
            repeat' (first | ((first | apply ga_dec | apply ga_ndec | apply cd_dec | apply cd_ndec | apply gd_dec | apply gd_ndec | apply ga_split | apply cd_split | apply gd_split) <;> intro hc <;> (try (simp -implicitDefEqProofs (maxSteps := 2000000) (disch := first | omega | (simp only [vz_push, vz_set, drop_size]; done) | (simp only [vz_push, vz_set, drop_size]; omega)) only [push_cast, seval, f12N0, f12N1, hc, q0, q1, q2, hs, he])) <;> (try (exfalso; omega))) | refine VC_pure (h1) ?_ | refine VC_pure (h2) ?_ | refine haw' ?_ | refine VC_pure (all_ok hk _ (by omega)) ?_ | refine VC_pure (rlook_ok hk c d (by omega)) ?_ | refine VC_pure (rvalues_ok hk a (by omega)) ?_ | refine VC_pure (rvalues_ok hk b (by omega)) ?_ | refine VC_pure (rintsV_ok hk _ _ (by simp; omega)) ?_ | (simp -implicitDefEqProofs (maxSteps := 2000000) (disch := first | omega | (simp only [vz_push, vz_set, drop_size]; done) | (simp only [vz_push, vz_set, drop_size]; omega)) only [push_cast, seval, f12N0, f12N1, q0, q1, q2, hs, he]))
  · repeat' (first | ((first | apply ga_dec | apply ga_ndec | apply cd_dec | apply cd_ndec | apply gd_dec | apply gd_ndec | apply ga_split | apply cd_split | apply gd_split) <;> intro hc <;> (try (simp -implicitDefEqProofs (maxSteps := 2000000) (disch := first | omega | (simp only [vz_push, vz_set, drop_size]; done) | (simp only [vz_push, vz_set, drop_size]; omega)) only [push_cast, seval, f12N0, f12N1, hc])) <;> (try (exfalso; omega))) | refine haw' ?_ | (simp -implicitDefEqProofs (maxSteps := 2000000) (disch := first | omega | (simp only [vz_push, vz_set, drop_size]; done) | (simp only [vz_push, vz_set, drop_size]; omega)) only [push_cast, seval, f12N0, f12N1]))
end
end Go.Proofs.YtpckldhojfjdmaaDoor.Ab
