/- esc.Read on a history's text. -/
import Derived.Test.YticllcglldbffaaQ7
namespace Go.Proofs.Yticllcglldbffaa.Ab
open Go.Proofs
set_option maxRecDepth 100000
set_option maxHeartbeats 4000000
set_option linter.unusedSimpArgs false
set_option linter.unusedVariables false
set_option linter.unnecessarySimpa false
set_option linter.unusedSectionVars false
/-- The entries that have signs. -/
def fullH (h : Hs) : Hs := h.filter fun l => decide (l ≠ [])
def pieceH (h : Hs) : List (List UInt8) := (fullH h).map fun l => escL (l.map (·.1))
theorem fullH_snoc (h : Hs) (l : List (Int × Int)) : fullH (h ++ [l]) = fullH h ++ (if l = [] then [] else [l]) := by
  unfold fullH
  rw [List.filter_append]
  by_cases e : l = [] <;> simp [e]
theorem cut_line {t r : List UInt8} (ht : ∀ c ∈ t, 32 ≤ c.toNat ∧ c.toNat ≤ 126) : (10 : UInt8) ∈ t ++ 10 :: r ∧ (t ++ 10 :: r).takeWhile (· ≠ 10) = t ∧ ((t ++ 10 :: r).dropWhile (· ≠ 10)).drop 1 = r := by
  refine ⟨by simp, ?_⟩
  induction t with
  | nil => simp [List.takeWhile, List.dropWhile]
  | cons a t ih =>
    have h1 := ht a List.mem_cons_self
    have h2 := ih fun c hc => ht c (List.mem_cons_of_mem _ hc)
    have ha : a ≠ 10 := by rintro rfl; exact absurd h1.1 (by decide)
    simp only [List.cons_append, List.takeWhile, List.dropWhile, ne_eq, ha, not_false_eq_true, decide_true]
    exact ⟨congrArg (List.cons a) (by simpa using h2.1), by simpa using h2.2⟩
theorem Gw.cells {s0 s : VS} {e sz n : Nat} {v : AV} {cs : List AV} (h : Gw s0 s e sz v n cs) (hn : 0 < n) : ∃ b sp c zs e', v = .sl ⟨b, 0, sp⟩ n c ∧ s.get b = some (.own ⟨cs ++ zs, e', sp.getD 0, 0, false⟩) ∧ n ≤ c / 2 ∧ s0.size ≤ b ∧ cs.length = n * sz := by
  cases h with
  | nil => omega
  | emp => omega
  | row b sp n cs h1 h2 h3 => exact ⟨b, sp, capO n, [], e, rfl, by rw [List.append_nil]; exact h1, by rw [capO_half]; omega, h2, h3⟩
  | room b n N cs zs e' h1 h2 h3 h4 h5 => exact ⟨b, none, capX N, zs, e', rfl, h1, by rw [capX_half]; omega, h2, h3⟩
section
variable {k : Nat → List Value → Option Value} (hk : ∀ f, f ≠ 32 → f ≠ 51 → Open k f)
include hk
theorem escRead_ok (hix : ∀ (l : List UInt8) (c : UInt8), PC (XK k) 51 [tx l, tx [c]] (.c (.int .i64 (Lib.indexByte l c))))
    (hun : ∀ n, n < 16777216 → PC (XK k) 36 [tx (hexP n 6)] (.tup [.c (.int .i64 n), .c (.int .i64 0)])) (h : Hs) (hn : Lt h) (hr : (h.all fun l => l.all rightS) = true) :
    PC (XK k) 15 [tx (textH h), .c (.int .i64 30), .c (.int .i64 60)] (LH ((fullH h).map fun l => l.map fun p => (p.1, 3))) := by
  refine PC_of fun st => ?_
  refine f15_in (hk _ (by decide) (by decide)) ?_
  have h1 := hn.1
  have hft : ∀ i, (pieceH (h.take i)).length ≤ i := fun i => by
    unfold pieceH fullH
    rw [List.length_map]
    exact Nat.le_trans (List.length_filter_le _ _) (by rw [List.length_take]; omega)
  repeat' (first | ((first | apply ga_dec | apply ga_ndec | apply cd_dec | apply cd_ndec | apply gd_dec | apply gd_ndec | apply ga_split | apply cd_split | apply gd_split) <;> intro hc <;> (try (simp -implicitDefEqProofs (maxSteps := 2000000) (disch := first | omega | (simp only [vz_push, vz_set, drop_size]; first | done | omega)) only [push_cast, seval, f15N0, f15N1, f15N2, f15N3, f15N4, hc])) <;> (try (exfalso; omega))) | (simp -implicitDefEqProofs (maxSteps := 2000000) (disch := first | omega | (simp only [vz_push, vz_set, drop_size]; first | done | omega)) only [push_cast, seval, f15N0, f15N1, f15N2, f15N3, f15N4]))
  refine VW_iter (fun m ρ s' => ∃ (i : Nat) (v : AV), m = h.length - i ∧ i ≤ h.length ∧ ρ.get 0 = tx (textH (h.drop i)) ∧ ρ.get 1 = .c (.int .i64 30) ∧ ρ.get 2 = .c (.int .i64 60) ∧ ρ.get 7 = v ∧ Gw st s' 9 1 v (pieceH (h.take i)).length ((pieceH (h.take i)).map tx) ∧ KeepA st s') h.length
    ⟨0, _, rfl, Nat.zero_le _, by (((try simp -implicitDefEqProofs only [eA_tmp, eA_const, AEnv.get_set, ofA_get, List.getD_cons_zero, List.getD_cons_succ, ↓reduceIte, reduceCtorEq, Nat.reduceEqDiff]); try (first | (with_reducible assumption) | (with_reducible rfl) | (congr 2 <;> omega) | rfl))), by (((try simp -implicitDefEqProofs only [eA_tmp, eA_const, AEnv.get_set, ofA_get, List.getD_cons_zero, List.getD_cons_succ, ↓reduceIte, reduceCtorEq, Nat.reduceEqDiff]); try (first | (with_reducible assumption) | (with_reducible rfl) | (congr 2 <;> omega) | rfl))), by (((try simp -implicitDefEqProofs only [eA_tmp, eA_const, AEnv.get_set, ofA_get, List.getD_cons_zero, List.getD_cons_succ, ↓reduceIte, reduceCtorEq, Nat.reduceEqDiff]); try (first | (with_reducible assumption) | (with_reducible rfl) | (congr 2 <;> omega) | rfl))), by (((try simp -implicitDefEqProofs only [eA_tmp, eA_const, AEnv.get_set, ofA_get, List.getD_cons_zero, List.getD_cons_succ, ↓reduceIte, reduceCtorEq, Nat.reduceEqDiff]); try (first | (with_reducible assumption) | (with_reducible rfl) | (congr 2 <;> omega) | rfl))), .nil, by (repeat first | assumption | exact KeepA.refl _ | apply KeepA.push | refine KeepA.set ?_ (by first | omega | (simp only [vz_push, vz_set, drop_size]; omega) | (have h9 := KeepA.size_le (by assumption); (try simp only [vz_push, vz_set, drop_size] at *); omega)) _ | refine KeepA.drop ?_ (by first | omega | (simp only [vz_push, vz_set, drop_size]; omega) | (have h9 := KeepA.size_le (by assumption); (try simp only [vz_push, vz_set, drop_size] at *); omega)) | refine KeepA.trans ?_ (by assumption))⟩ ?_
  rintro m ρ s' ⟨i, v, rfl, hi, g0, g1, g2, g7, j1, j2⟩
  have hfi := hft i
  have hll : (textH (h.drop i)).length ≤ 481 * 30 := by
    have := textH_len (h := h.drop i) fun l hl => ⟨hn.2 l (List.mem_of_mem_drop hl), rightS_all (List.all_eq_true.1 hr l (List.mem_of_mem_drop hl))⟩
    rw [List.length_drop] at this
    omega
  by_cases c1 : i < h.length
  · have he := List.getElem?_eq_getElem c1
    have hm := hn.2 _ (List.getElem_mem c1)
    have hl : h[i].all rightS = true := List.all_eq_true.1 hr _ (List.getElem_mem c1)
    have hdr : h.drop i = h[i] :: h.drop (i + 1) := List.drop_eq_getElem_cons c1
    generalize h[i] = l at he hm hl hdr
    have hel := escL_len (rightS_all hl)
    have hby := escL_bytes (rightS_all hl)
    rw [List.length_map] at hel
    have htd : textH (h.drop i) = escL (l.map (·.1)) ++ 10 :: textH (h.drop (i + 1)) := by rw [hdr]; simp [textH]
    have hpn : pieceH (h.take (i + 1)) = pieceH (h.take i) ++ (if l = [] then [] else [escL (l.map (·.1))]) := by
      unfold pieceH
      rw [take_snoc he, fullH_snoc, List.map_append]
      by_cases e : l = [] <;> simp [e]
    have hne : l = [] ↔ escL (l.map (·.1)) = [] := by
      constructor
      · rintro rfl; rfl
      · intro e
        rw [e] at hel
        exact List.length_eq_zero_iff.1 (by simpa using hel.1)
    obtain ⟨k1, k2, k3⟩ := cut_line (r := textH (h.drop (i + 1))) hby
    have w := cut1_ok hk hix (textH (h.drop i)) 10 (by omega)
    rw [htd, if_pos k1, if_pos k1, k2, k3, decide_eq_true k1] at w
    rw [htd] at g0
    generalize escL (l.map (·.1)) = t at *
    have q1 : (t ++ 10 :: textH (h.drop (i + 1)) == []) = false := by cases t <;> rfl
    by_cases e : l = []
    · have et : t = [] := hne.1 e
      subst et
      rw [if_pos e, List.append_nil] at hpn
      rw [List.nil_append] at q1 g0 w
      repeat' (first | ((first | apply ga_dec | apply ga_ndec | apply cd_dec | apply cd_ndec | apply gd_dec | apply gd_ndec | apply ga_split | apply cd_split | apply gd_split) <;> intro hc <;> (try (simp -implicitDefEqProofs (maxSteps := 2000000) (disch := first | omega | (simp only [vz_push, vz_set, drop_size]; first | done | omega)) only [push_cast, seval, f15N0, f15N1, f15N2, f15N3, f15N4, hc, g0, g1, g2, g7, q1])) <;> (try (exfalso; omega))) | refine VC_pure (w) ?_ | (simp -implicitDefEqProofs (maxSteps := 2000000) (disch := first | omega | (simp only [vz_push, vz_set, drop_size]; first | done | omega)) only [push_cast, seval, f15N0, f15N1, f15N2, f15N3, f15N4, g0, g1, g2, g7, q1]))
      all_goals (try (exfalso; omega))
      exact ⟨_ - (i + 1), by omega, i + 1, v, rfl, by omega, rfl, rfl, by rw [hpn]; exact j1, j2⟩
    · have et : (t == []) = false := beq_false_of_ne fun x => e (hne.2 x)
      rw [if_neg e] at hpn
      repeat' (first | ((first | apply ga_dec | apply ga_ndec | apply cd_dec | apply cd_ndec | apply gd_dec | apply gd_ndec | apply ga_split | apply cd_split | apply gd_split) <;> intro hc <;> (try (simp -implicitDefEqProofs (maxSteps := 2000000) (disch := first | omega | (simp only [vz_push, vz_set, drop_size]; first | done | omega)) only [push_cast, seval, f15N0, f15N1, f15N2, f15N3, f15N4, hc, g0, g1, g2, g7, q1, et])) <;> (try (exfalso; omega))) | refine VC_pure (w) ?_ | (simp -implicitDefEqProofs (maxSteps := 2000000) (disch := first | omega | (simp only [vz_push, vz_set, drop_size]; first | done | omega)) only [push_cast, seval, f15N0, f15N1, f15N2, f15N3, f15N4, g0, g1, g2, g7, q1, et]))
      all_goals (try (exfalso; omega))
      refine Gw.step (sz := 1) (j1.push _) (by (repeat first | assumption | exact KeepA.refl _ | apply KeepA.push | refine KeepA.set ?_ (by first | omega | (simp only [vz_push, vz_set, drop_size]; omega) | (have h9 := KeepA.size_le (by assumption); (try simp only [vz_push, vz_set, drop_size] at *); omega)) _ | refine KeepA.drop ?_ (by first | omega | (simp only [vz_push, vz_set, drop_size]; omega) | (have h9 := KeepA.size_le (by assumption); (try simp only [vz_push, vz_set, drop_size] at *); omega)) | refine KeepA.trans ?_ (by assumption))) rfl rfl rfl (room_ok (by constructor <;> (try dsimp only) <;> omega)) ?_
      intro v2 s2 hg2 _ _ hkp
      (try (simp -implicitDefEqProofs (maxSteps := 2000000) (disch := first | omega | (simp only [vz_push, vz_set, drop_size]; first | done | omega)) only [push_cast, seval, f15N0, f15N1, f15N2, f15N3, f15N4, g0, g1, g2, g7])) <;> (repeat' ((first | apply ga_dec | apply ga_ndec | apply cd_dec | apply cd_ndec | apply gd_dec | apply gd_ndec | apply ga_split | apply cd_split | apply gd_split) <;> intro hc <;> try (simp -implicitDefEqProofs (maxSteps := 2000000) (disch := first | omega | (simp only [vz_push, vz_set, drop_size]; first | done | omega)) only [push_cast, seval, f15N0, f15N1, f15N2, f15N3, f15N4, hc, g0, g1, g2, g7])))
      refine ⟨_ - (i + 1), by omega, i + 1, v2, rfl, by omega, rfl, rfl, ?_, hkp⟩
      rw [hpn, List.map_append, List.length_append]
      exact hg2
  · have hi2 : i = h.length := by omega
    subst hi2
    rw [List.drop_eq_nil_of_le (Nat.le_refl _), show textH [] = [] from rfl] at g0
    rw [List.take_length] at j1 hfi
    have r0 : roomOk 0 24 = true := room_ok (by constructor <;> (try dsimp only) <;> omega)
    have r1 : roomOk (pieceH h).length 24 = true := room_ok (by constructor <;> (try dsimp only) <;> omega)
    have hpf : (pieceH h).length = (fullH h).length := by unfold pieceH; rw [List.length_map]
    have hcl : (if ((pieceH h).length : Int) - 30 > 0 then ((pieceH h).length : Int) - 30 else 0) = 0 := if_neg (by omega)
    by_cases hz : (pieceH h).length = 0
    · have hf : fullH h = [] := List.length_eq_zero_iff.1 (by omega)
      rw [hf]
      have hsh : v = .c (.slice none 0 0) ∨ v = .emp ∨ ∃ a c, v = .sl a 0 c := by
        rcases j1.shape with ⟨rfl, _⟩ | ⟨rfl, _⟩ | ⟨a, c, rfl⟩
        · exact .inl rfl
        · exact .inr (.inl rfl)
        · exact .inr (.inr ⟨a, c, by rw [hz]⟩)
      clear j1
      rcases hsh with rfl | rfl | ⟨a, c, rfl⟩
      all_goals repeat' (first | ((first | apply ga_dec | apply ga_ndec | apply cd_dec | apply cd_ndec | apply gd_dec | apply gd_ndec | apply ga_split | apply cd_split | apply gd_split) <;> intro hc <;> (try (simp -implicitDefEqProofs (maxSteps := 2000000) (disch := first | omega | (simp only [vz_push, vz_set, drop_size]; first | done | omega)) only [push_cast, seval, f15N0, f15N1, f15N2, f15N3, f15N4, hc, g0, g1, g2, g7, r0, r1])) <;> (try (exfalso; omega))) | (simp -implicitDefEqProofs (maxSteps := 2000000) (disch := first | omega | (simp only [vz_push, vz_set, drop_size]; first | done | omega)) only [push_cast, seval, f15N0, f15N1, f15N2, f15N3, f15N4, g0, g1, g2, g7, r0, r1]))
      all_goals
        refine VW_iter (fun m ρ s2 => ρ.get 46 = .c (.int .i64 0) ∧ ρ.get 47 = .c (.int .i64 0) ∧ ρ.get 11 = .sl ⟨s'.size, 0, none⟩ 0 (capX 0) ∧ s2.get s'.size = some (.own ⟨[], 30, 0, 0, false⟩) ∧ KeepA st s2) 0 ⟨by (((try simp -implicitDefEqProofs only [eA_tmp, eA_const, AEnv.get_set, ofA_get, List.getD_cons_zero, List.getD_cons_succ, ↓reduceIte, reduceCtorEq, Nat.reduceEqDiff]); try (first | (with_reducible assumption) | (with_reducible rfl) | (congr 2 <;> omega) | rfl))), by (((try simp -implicitDefEqProofs only [eA_tmp, eA_const, AEnv.get_set, ofA_get, List.getD_cons_zero, List.getD_cons_succ, ↓reduceIte, reduceCtorEq, Nat.reduceEqDiff]); try (first | (with_reducible assumption) | (with_reducible rfl) | (congr 2 <;> omega) | rfl))), by (((try simp -implicitDefEqProofs only [eA_tmp, eA_const, AEnv.get_set, ofA_get, List.getD_cons_zero, List.getD_cons_succ, ↓reduceIte, reduceCtorEq, Nat.reduceEqDiff]); try (first | (with_reducible assumption) | (with_reducible rfl) | (congr 2 <;> omega) | rfl))), by (simp -implicitDefEqProofs (disch := first | omega | (simp only [vz_push, vz_set, drop_size]; first | done | omega)) only [drop_ne, gp_ne, gp_eq, gs_ne, gs_eq]), by (repeat first | assumption | exact KeepA.refl _ | apply KeepA.push | refine KeepA.set ?_ (by first | omega | (simp only [vz_push, vz_set, drop_size]; omega) | (have h9 := KeepA.size_le (by assumption); (try simp only [vz_push, vz_set, drop_size] at *); omega)) _ | refine KeepA.drop ?_ (by first | omega | (simp only [vz_push, vz_set, drop_size]; omega) | (have h9 := KeepA.size_le (by assumption); (try simp only [vz_push, vz_set, drop_size] at *); omega)) | refine KeepA.trans ?_ (by assumption))⟩ ?_
        rintro m ρ2 s2 ⟨g46, g47, g11, q1, q2⟩
        repeat' (first | ((first | apply ga_dec | apply ga_ndec | apply cd_dec | apply cd_ndec | apply gd_dec | apply gd_ndec | apply ga_split | apply cd_split | apply gd_split) <;> intro hc <;> (try (simp -implicitDefEqProofs (maxSteps := 2000000) (disch := first | omega | (simp only [vz_push, vz_set, drop_size]; first | done | omega)) only [push_cast, seval, f15N0, f15N1, f15N2, f15N3, f15N4, hc, g46, g47, g11])) <;> (try (exfalso; omega))) | (simp -implicitDefEqProofs (maxSteps := 2000000) (disch := first | omega | (simp only [vz_push, vz_set, drop_size]; first | done | omega)) only [push_cast, seval, f15N0, f15N1, f15N2, f15N3, f15N4, g46, g47, g11]))
        exact (Gw.room (e := 30) s'.size 0 0 [] [] 30 q1 (by have := j2.1; omega) rfl rfl (Nat.le_refl _)).out q2 (xs := []) rfl (by simp) FirmR.nil (by omega)
    · obtain ⟨b, sp, c, zs, e', rfl, q1, q2, q3, q4⟩ := j1.cells (by omega)
      repeat' (first | ((first | apply ga_dec | apply ga_ndec | apply cd_dec | apply cd_ndec | apply gd_dec | apply gd_ndec | apply ga_split | apply cd_split | apply gd_split) <;> intro hc <;> (try (simp -implicitDefEqProofs (maxSteps := 2000000) (disch := first | omega | (simp only [vz_push, vz_set, drop_size]; first | done | omega)) only [push_cast, seval, f15N0, f15N1, f15N2, f15N3, f15N4, hc, g0, g1, g2, g7, r0, r1, hcl])) <;> (try (exfalso; omega))) | (simp -implicitDefEqProofs (maxSteps := 2000000) (disch := first | omega | (simp only [vz_push, vz_set, drop_size]; first | done | omega)) only [push_cast, seval, f15N0, f15N1, f15N2, f15N3, f15N4, g0, g1, g2, g7, r0, r1, hcl]))
      have hw3 : ∀ l ∈ fullH h, l.length ≤ 60 ∧ l.all rightS = true := fun l hl => by
        have := (List.mem_filter.1 hl).1
        exact ⟨hn.2 l this, List.all_eq_true.1 hr l this⟩
      have hpd : pieceH h = (fullH h).map fun l => escL (l.map (·.1)) := rfl
      have hbs := VS.lt_of_get q1
      generalize pieceH h = P at *
      generalize fullH h = F at *
      obtain ⟨c2, hc2⟩ : ∃ c2, c2 = (if c % 2 = 1 then capX (c / 2) else capO (c / 2)) := ⟨_, rfl⟩
      rw [← hc2]
      clear hc2 q2
      refine VW_iter (fun m ρ s2 => ∃ (j : Nat) (w : AV), m = P.length - j ∧ j ≤ P.length ∧ ρ.get 2 = .c (.int .i64 60) ∧ ρ.get 11 = w ∧ ρ.get 45 = .sl ⟨b, 0, sp⟩ P.length c2 ∧ ρ.get 46 = .c (.int .i64 P.length) ∧ ρ.get 47 = .c (.int .i64 j) ∧ s2.get b = some (.own ⟨P.map tx ++ zs, e', sp.getD 0, 0, false⟩) ∧ blkOf w ≠ some b ∧
          Gw st s2 30 1 w j (((F.take j).map fun l => eH (l.map fun p => (p.1, 3))).flatten) ∧ KeepA st s2) P.length
        ⟨0, _, rfl, Nat.zero_le _, by (((try simp -implicitDefEqProofs only [eA_tmp, eA_const, AEnv.get_set, ofA_get, List.getD_cons_zero, List.getD_cons_succ, ↓reduceIte, reduceCtorEq, Nat.reduceEqDiff]); try (first | (with_reducible assumption) | (with_reducible rfl) | (congr 2 <;> omega) | rfl))), by (((try simp -implicitDefEqProofs only [eA_tmp, eA_const, AEnv.get_set, ofA_get, List.getD_cons_zero, List.getD_cons_succ, ↓reduceIte, reduceCtorEq, Nat.reduceEqDiff]); try (first | (with_reducible assumption) | (with_reducible rfl) | (congr 2 <;> omega) | rfl))), by (((try simp -implicitDefEqProofs only [eA_tmp, eA_const, AEnv.get_set, ofA_get, List.getD_cons_zero, List.getD_cons_succ, ↓reduceIte, reduceCtorEq, Nat.reduceEqDiff]); try (first | (with_reducible assumption) | (with_reducible rfl) | (congr 2 <;> omega) | rfl))), by (((try simp -implicitDefEqProofs only [eA_tmp, eA_const, AEnv.get_set, ofA_get, List.getD_cons_zero, List.getD_cons_succ, ↓reduceIte, reduceCtorEq, Nat.reduceEqDiff]); try (first | (with_reducible assumption) | (with_reducible rfl) | (congr 2 <;> omega) | rfl))), by (((try simp -implicitDefEqProofs only [eA_tmp, eA_const, AEnv.get_set, ofA_get, List.getD_cons_zero, List.getD_cons_succ, ↓reduceIte, reduceCtorEq, Nat.reduceEqDiff]); try (first | (with_reducible assumption) | (with_reducible rfl) | (congr 2 <;> omega) | rfl))), (gp_ne (by omega)).trans q1, by simp [blkOf]; omega, Gw.room (e := 30) s'.size 0 P.length [] ((reps [Value.slice none 0 0] P.length).map cv) 30 (gp_eq rfl) (by have := j2.1; omega) rfl (by simp [reps_len]) (Nat.zero_le _), by (repeat first | assumption | exact KeepA.refl _ | apply KeepA.push | refine KeepA.set ?_ (by first | omega | (simp only [vz_push, vz_set, drop_size]; omega) | (have h9 := KeepA.size_le (by assumption); (try simp only [vz_push, vz_set, drop_size] at *); omega)) _ | refine KeepA.drop ?_ (by first | omega | (simp only [vz_push, vz_set, drop_size]; omega) | (have h9 := KeepA.size_le (by assumption); (try simp only [vz_push, vz_set, drop_size] at *); omega)) | refine KeepA.trans ?_ (by assumption))⟩ ?_
      rintro m ρ2 s2 ⟨j, w, rfl, hj, g2', g11, g45, g46, g47, p1, p2, p3, p4⟩
      have zb := VS.lt_of_get p1
      by_cases c3 : j < P.length
      · have hjF : j < F.length := by omega
        have heF := List.getElem?_eq_getElem hjF
        have hml := hw3 _ (List.getElem_mem hjF)
        generalize F[j] = l at heF hml
        have heP : P[j]? = some (escL (l.map (·.1))) := by rw [hpd, List.getElem?_map, heF]; rfl
        have hu := escUnline_ok hk hun (l.map (·.1)) (rightS_all hml.2) (by rw [List.length_map]; omega) 60 (by rw [List.length_map]; omega)
        have hrd : List.take 1 (List.drop j (P.map tx ++ zs)) = [tx (escL (l.map (·.1)))] := by
          rw [List.drop_append_of_le_length (by rw [List.length_map]; omega), ← List.map_drop, drop_at heP]
          rfl
        have hcll : (P.map tx ++ zs).length = P.length + zs.length := by rw [List.length_append, List.length_map]
        have r2 : roomOk 1 24 = true := room_ok (by constructor <;> (try dsimp only) <;> omega)
        repeat' (first | ((first | apply ga_dec | apply ga_ndec | apply cd_dec | apply cd_ndec | apply gd_dec | apply gd_ndec | apply ga_split | apply cd_split | apply gd_split) <;> intro hc <;> (try (simp -implicitDefEqProofs (maxSteps := 2000000) (disch := first | omega | (simp only [vz_push, vz_set, drop_size]; first | done | omega)) only [push_cast, seval, f15N0, f15N1, f15N2, f15N3, f15N4, hc, g2', g11, g45, g46, g47, p1, zb, hcll, hrd])) <;> (try (exfalso; omega))) | refine VC_pure (hu) ?_ | (simp -implicitDefEqProofs (maxSteps := 2000000) (disch := first | omega | (simp only [vz_push, vz_set, drop_size]; first | done | omega)) only [push_cast, seval, f15N0, f15N1, f15N2, f15N3, f15N4, g2', g11, g45, g46, g47, p1, zb, hcll, hrd]))
        all_goals (try (exfalso; omega))
        have e3 : (l.map (·.1)).map (fun v => (v, (3 : Int))) = l.map fun p => (p.1, 3) := by rw [List.map_map]; rfl
        rw [e3]
        refine Gw.step (sz := 1) (p3.push _) (by (repeat first | assumption | exact KeepA.refl _ | apply KeepA.push | refine KeepA.set ?_ (by first | omega | (simp only [vz_push, vz_set, drop_size]; omega) | (have h9 := KeepA.size_le (by assumption); (try simp only [vz_push, vz_set, drop_size] at *); omega)) _ | refine KeepA.drop ?_ (by first | omega | (simp only [vz_push, vz_set, drop_size]; omega) | (have h9 := KeepA.size_le (by assumption); (try simp only [vz_push, vz_set, drop_size] at *); omega)) | refine KeepA.trans ?_ (by assumption))) rfl rfl rfl (room_ok (by constructor <;> (try dsimp only) <;> omega)) ?_
        intro w2 s3 hg2 hbut hblk hkp
        have zs2 := hbut.get ((gp_ne (by omega)).trans p1) p2
        (try (simp -implicitDefEqProofs (maxSteps := 2000000) (disch := first | omega | (simp only [vz_push, vz_set, drop_size]; first | done | omega)) only [push_cast, seval, f15N0, f15N1, f15N2, f15N3, f15N4, g2', g11, g45, g46, g47])) <;> (repeat' ((first | apply ga_dec | apply ga_ndec | apply cd_dec | apply cd_ndec | apply gd_dec | apply gd_ndec | apply ga_split | apply cd_split | apply gd_split) <;> intro hc <;> try (simp -implicitDefEqProofs (maxSteps := 2000000) (disch := first | omega | (simp only [vz_push, vz_set, drop_size]; first | done | omega)) only [push_cast, seval, f15N0, f15N1, f15N2, f15N3, f15N4, hc, g2', g11, g45, g46, g47])))
        refine ⟨_ - (j + 1), by omega, j + 1, w2, rfl, by omega, rfl, congrArg (fun z => AV.c (.int .i64 z)) (by omega), zs2, fun hx => p2 (hblk b (by rw [vz_push]; omega) hx), ?_, hkp⟩
        rw [take_snoc heF, List.map_append, List.flatten_append]
        exact hg2
      · have hj2 : j = P.length := by omega
        subst hj2
        rw [List.take_of_length_le (by omega)] at p3
        repeat' (first | ((first | apply ga_dec | apply ga_ndec | apply cd_dec | apply cd_ndec | apply gd_dec | apply gd_ndec | apply ga_split | apply cd_split | apply gd_split) <;> intro hc <;> (try (simp -implicitDefEqProofs (maxSteps := 2000000) (disch := first | omega | (simp only [vz_push, vz_set, drop_size]; first | done | omega)) only [push_cast, seval, f15N0, f15N1, f15N2, f15N3, f15N4, hc, g2', g11, g45, g46, g47])) <;> (try (exfalso; omega))) | (simp -implicitDefEqProofs (maxSteps := 2000000) (disch := first | omega | (simp only [vz_push, vz_set, drop_size]; first | done | omega)) only [push_cast, seval, f15N0, f15N1, f15N2, f15N3, f15N4, g2', g11, g45, g46, g47]))
        all_goals (try (exfalso; omega))
        have e4 : LH (F.map fun l => l.map fun p => (p.1, 3)) = .lst 1 (F.map fun l => eH (l.map fun p => (p.1, 3))) := by
          unfold LH
          rw [List.map_map]
          rfl
        rw [e4]
        exact (p3.cast hpf rfl).outm p4 (fun _ => rfl) (fun l => firm_eH _) (by omega)
end
end Go.Proofs.Yticllcglldbffaa.Ab
