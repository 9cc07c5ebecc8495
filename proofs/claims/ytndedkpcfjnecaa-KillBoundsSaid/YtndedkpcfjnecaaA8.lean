/- append, copy, clear; maps; conversions; what is made. -/
import Derived.Test.YtndedkpcfjnecaaA7
set_option linter.unusedSimpArgs false
set_option linter.unusedVariables false
namespace Go.Proofs.Ytndedkpcfjnecaa.Ab

section
variable {X : Prg} {P : Program} (H : Sound X P) {φ : Phi} {s : St} {w : World}

/-- A new row out of cells that are known, and more behind them. -/
theorem new_row (hs : SRel X φ s.get w) {w' : World} {e : TypeId} {te : Ty} {cs cs' rest : List Value} {str : Bool} {fr : Nat × Nat} (hte : X.ty e = some te) (hf : Fresh φ s.size (s.size + 1)) (hv : VRels φ cs cs')
    (hw : w'.heap = w.heap.push (.cells (cs' ++ rest).toArray e fr)) (hfr : str = false → fr.2 = 0) (h1 : w'.os = w.os) (h2 : w'.tape = w.tape) (h3 : w'.output = w.output) :
    SRel X (φ.ext s.size 0 ⟨w.heap.size, 0, cs'.length + rest.length, te.size⟩) (s.push (.own ⟨cs, e, 0, 0, str⟩)).get w' ∧
    Step φ (φ.ext s.size 0 ⟨w.heap.size, 0, cs'.length + rest.length, te.size⟩) s (s.push (.own ⟨cs, e, 0, 0, str⟩)) w w' := by
  have hn : φ s.size 0 = none := hf _ _ (Nat.le_refl _) (by omega)
  refine new_run hs hf hw h1 h2 h3 rfl ⟨Nat.le_refl _, fun _ => ⟨rfl, (cs' ++ rest).toArray, fr, ?_, by simp, ⟨te, hte, rfl⟩, fun h => by rw [hfr h]; exact Nat.zero_le _, ?_, ?_⟩⟩
  · rw [hw]; simp
  · have := hv.length; simp; omega
  · have := hv.length
    have e1 : (cs' ++ rest).toArray.toList.take cs.length = cs' := by rw [this]; simp
    simp only [e1]
    exact hv.mono (Phi.le_ext hn)

include H
theorem append_run {argTypes : Array TypeId} {ty0 : TypeId} {x y x' y' v : Value} {s' : St} (h : appendv X argTypes x y s = some (v, s')) (hx : VRel φ x x') (hy : VRel φ y y') (hs : SRel X φ s.get w) (hf : Fresh φ s.size s'.size) :
    ∃ φ' v' w', (Builtin.append_ argTypes ty0 #[x', y']).run P w = .ok v' w' ∧ VRel φ' v v' ∧ SRel X φ' s'.get w' ∧ Step φ φ' s s' w w' := by
  unfold appendv at h
  split at h
  · rename_i t t1 ht ht1
    split at h
    · rename_i e hu
      split at h
      · rename_i te hte
        split at h
        · rename_i n vs hn
          obtain ⟨hvl, d, vs', hd, hvs, hcase⟩ := newv_run H hn hte hy hs
          have hvl' := hvs.length
          have hsrc : Src P te te.zero.cells n y' vs' d w := by
            rcases hcase with ⟨k, rfl, m, k', rfl, h1, h2, h3, h4⟩ | h1
            · exact .inl ⟨k, m, k', rfl, rfl, h1, h2, h3, h4⟩
            · exact .inr h1
          unfold appendTo at h
          split at h
          · -- nil
            rename_i len cap
            cases hx
            split at h
            · cases h
            · split at h
              · rename_i hn0
                cases h
                subst hn0
                have := app_room H (ty0 := ty0) (base := none) (sLen := 0) (sCap := 0) ht ht1 hu hte hd hsrc (Nat.le_refl _)
                exact ⟨φ, _, w, by simpa using this, .nilSlice, hs, Step.refl _ _ _⟩
              · rename_i hn0
                split at h
                · rename_i hroom
                  cases h
                  obtain ⟨c, rest, w1, g1, g2, g3, g4, g5, g6, g7⟩ := app_grow H (ty0 := ty0) (base := none) (sLen := 0) (sCap := 0) (old := []) ht ht1 hu hte hd hsrc (by omega) (by simpa using hroom) (fun w' _ => by simp [Builtin.firstCells])
                  obtain ⟨k1, k2⟩ := new_row hs hte (by simpa [St.size_push] using hf) hvs (str := false) (fr := (0, 0)) (by simpa using g3) (fun _ => rfl) g4 g5 g6
                  refine ⟨_, _, w1, g1, ?_, k1, k2⟩
                  rw [Nat.zero_add] at g2 g7 ⊢
                  refine VRel.slice ⟨s.size, 0, none⟩ _ _ _ _ _ (Phi.ext_same _ _ _ _) (.inl rfl) g2 ?_ ?_ ?_
                  · unfold capO; intro; omega
                  · unfold capO; omega
                  · intro _ _
                    simp only
                    rw [g7, ← hvl', hvl, ← Nat.add_mul]
                    exact Nat.le_of_eq (by congr 1; omega)
                · cases h
          · -- some
            rename_i a len cap
            cases hx with | slice a l len cap aa cap' hl h1 h2 h3 h4 h5 =>
            split at h
            · rename_i hn0
              cases h
              subst hn0
              have hv0 : vs' = [] := List.eq_nil_of_length_eq_zero (by omega)
              subst hv0
              have := app_room H (ty0 := ty0) (base := some aa) (sLen := len) (sCap := cap') ht ht1 hu hte hd hsrc h2
              refine ⟨φ, _, w, by simpa [storeCells] using this, .slice a l len cap aa cap' hl h1 h2 h3 h4 h5, hs, Step.refl _ _ _⟩
            · rename_i hn0
              split at h
              · -- in place
                rename_i hroom
                split at h
                · rename_i s2 hw2
                  cases h
                  have hco : aa = ⟨l.c, l.off + a.off, none⟩ := by rcases h1 with h1 | h1; exact h1; omega
                  have hr := app_room H (ty0 := ty0) (base := some aa) (sLen := len) (sCap := cap') ht ht1 hu hte hd hsrc (by omega)
                  obtain ⟨w2, g1, g2, g3⟩ := store_run (P := P) hs hw2 (l := l) hl hvs
                  refine ⟨φ, _, w2, ?_, .slice a l (len + n) cap aa cap' hl h1 (by omega) h3 h4 h5, g2, g3⟩
                  rw [hr]
                  rw [hco]
                  simp only [add_none]
                  have : l.off + a.off + len * te.size = l.off + (Addr.fwd a (len * te.size)).off := by simp only [Addr.fwd]; omega
                  rw [this, g1]
                  rfl
                · cases h
              · rename_i hnr
                split at h
                · -- exact: it moves
                  rename_i hodd
                  split at h
                  · rename_i hroom
                    split at h
                    · rename_i old hold
                      cases h
                      have hcap := h3 hodd
                      obtain ⟨hol, old', ho1, ho2⟩ := firstv_run (P := P) (size := te.size) (n := len) (y := .slice (some a) len cap) (y' := .slice (some aa) len cap') hold (fun m hm => by cases hm; exact Nat.le_refl _) (.slice a l len cap aa cap' hl h1 h2 h3 h4 h5) hs
                      obtain ⟨c, rest, w1, g1, g2, g3, g4, g5, g6, g7⟩ := app_grow H (ty0 := ty0) (base := some aa) (sLen := len) (sCap := cap') (old := old') ht ht1 hu hte hd hsrc (by omega) hroom ho2
                      obtain ⟨k1, k2⟩ := new_row hs hte (by simpa [St.size_push] using hf) (ho1.append hvs) (str := false) (fr := (0, 0)) (rest := rest) (by rw [g3]) (fun _ => rfl) g4 g5 g6
                      refine ⟨_, _, w1, g1, ?_, k1, k2⟩
                      refine VRel.slice ⟨s.size, 0, none⟩ _ _ _ _ _ (Phi.ext_same _ _ _ _) (.inl rfl) g2 ?_ ?_ ?_
                      · unfold capO; intro; omega
                      · unfold capO; omega
                      · intro _ _
                        have := ho1.length
                        simp only [List.length_append]
                        rw [g7, ← hvl', hvl, ← this, hol, ← Nat.add_mul, ← Nat.add_mul]
                        exact Nat.le_of_eq (by congr 1; omega)
                    · cases h
                  · cases h
                · -- open: it grows at its end
                  rename_i hodd
                  split at h
                  · rename_i r hb
                    split at h
                    · rename_i hc
                      obtain ⟨hroom, hep, hoff, hcl, hel, hone, hfz, hstr⟩ := hc
                      cases h
                      rw [hep] at hl
                      obtain ⟨h0, arr, fr, k1, k2, ⟨ty2, k3, k3'⟩, k4, k5, k6⟩ := (hs.obj _ _ _ hl _ hb).2 rfl
                      rw [hel, hte] at k3; cases k3
                      have hfr := k4 hstr
                      have hev : cap % 2 = 0 := by omega
                      have hN := h5 hev hoff
                      have hn : φ a.block (r.ep + 1) = none := by
                        cases h : φ a.block (r.ep + 1) with
                        | none => rfl
                        | some l' => have := (hs.obj _ _ _ h _ hb).1; omega
                      by_cases hin : len + n ≤ cap'
                      · -- there is room
                        have hco : aa = ⟨l.c, 0, none⟩ := by
                          rcases h1 with h1 | h1
                          · rw [h1, h0, hoff]
                          · omega
                        subst hco
                        have hr := app_room H (ty0 := ty0) (base := some ⟨l.c, 0, none⟩) (sLen := len) (sCap := cap') ht ht1 hu hte hd hsrc hin
                        have hbig : len * te.size + vs'.length ≤ arr.size := by
                          rw [k2, ← hvl', hvl, ← Nat.add_mul]
                          exact Nat.le_trans (Nat.mul_le_mul_right _ hin) (by rw [← k3']; exact hN)
                        have hst := run_storeCells_atF P l.c (len * te.size) r.elem fr vs' 0 arr w k1 (by omega) (by omega) (hvs.oneCell hone)
                        simp only [Nat.add_zero] at hst
                        have hsize : (List.take (len * te.size) arr.toList ++ vs' ++ List.drop (len * te.size + vs'.length) arr.toList).toArray.size = arr.size := by simp; omega
                        have hgr := grow_run (X := X) hs (l2 := l) (cs2 := r.cs ++ vs) (w' := w.setRow l.c (List.take (len * te.size) arr.toList ++ vs' ++ List.drop (len * te.size + vs'.length) arr.toList).toArray) hb hl rfl rfl rfl (by rw [setRow_size]; exact Nat.le_refl _) (by rw [setRow_size]; exact hs.lt _ _ _ hl) (.inl rfl)
                          (fun c _ hcc => setRow_other _ _ _ _ hcc) ⟨Nat.le_refl _, fun _ => ⟨h0, _, fr, setRow_heap _ _ _ _ _ _ k1, by rw [hsize]; exact k2, ⟨te, by rw [hel]; exact hte, k3'⟩, k4, by rw [hsize]; simp; omega, ?_⟩⟩
                        · refine ⟨_, _, _, by rw [hr]; simp only [add_none, Nat.zero_add]; rw [hst]; rfl, ?_, hgr.1, hgr.2⟩
                          refine VRel.slice ⟨a.block, 0, some (r.ep + 1)⟩ l _ _ _ _ (Phi.ext_same _ _ _ _) (.inl (by simp [h0])) hin ?_ ?_ (fun _ _ => hN)
                          · unfold capO; intro; omega
                          · unfold capO; omega
                        · have e1 : (List.take (len * te.size) arr.toList ++ vs' ++ List.drop (len * te.size + vs'.length) arr.toList).toArray.toList.take (r.cs ++ vs).length = arr.toList.take r.cs.length ++ vs' := by
                            simp only [List.length_append, hcl, List.take_append, List.length_take, Array.length_toList]
                            rw [Nat.min_eq_left (by omega), List.take_take, Nat.min_eq_right (by omega), hvl', Nat.add_sub_cancel_left, List.take_of_length_le (by omega : vs'.length ≤ vs'.length)]
                            simp
                          simp only [e1]
                          exact (k6.append hvs).mono (Phi.le_ext hn)
                      · -- it moves
                        obtain ⟨hol, old', ho1, ho2⟩ := firstv_run (P := P) (s := s) (size := te.size) (n := len) (vs := r.cs) (y := .slice (some a) len cap) (y' := .slice (some aa) len cap') (by
                            simp only [firstv, St.rd, hb, hep, hoff, hcl, Nat.zero_add, Nat.le_refl, and_self, if_true, List.drop_zero]
                            rw [List.take_of_length_le (by omega)]) (fun m hm => by cases hm; exact Nat.le_refl _) (.slice a l len cap aa cap' (by rw [hep]; exact hl) h1 h2 h3 h4 h5) hs
                        obtain ⟨c, rest, w1, g1, g2, g3, g4, g5, g6, g7⟩ := app_grow H (ty0 := ty0) (base := some aa) (sLen := len) (sCap := cap') (old := old') ht ht1 hu hte hd hsrc (by omega) hroom ho2
                        have hlo := ho1.length
                        have hgr := grow_run (X := X) hs (l2 := ⟨w.heap.size, 0, (old' ++ vs' ++ rest).length, te.size⟩) (cs2 := r.cs ++ vs) (w' := w1) hb hl g4 g5 g6 (by rw [g3, Array.size_push]; omega) (by rw [g3, Array.size_push]; simp only; omega) (.inr (Nat.le_refl _))
                          (fun c hcs hcc => by rw [g3, Array.getElem?_push, if_neg (by omega)]) ⟨Nat.le_refl _, fun _ => ⟨rfl, (old' ++ vs' ++ rest).toArray, (0, 0), by rw [g3, hel]; simp, by simp, ⟨te, by rw [hel]; exact hte, rfl⟩, fun _ => Nat.zero_le _, by simp; omega, ?_⟩⟩
                        · refine ⟨_, _, _, g1, ?_, hgr.1, hgr.2⟩
                          refine VRel.slice ⟨a.block, 0, some (r.ep + 1)⟩ ⟨w.heap.size, 0, (old' ++ vs' ++ rest).length, te.size⟩ _ _ _ _ (Phi.ext_same _ _ _ _) (.inl rfl) g2 ?_ ?_ ?_
                          · unfold capO; intro; omega
                          · unfold capO; omega
                          · intro _ _
                            simp only [List.length_append]
                            rw [g7, ← hvl', hvl, ← hlo, hol, ← Nat.add_mul, ← Nat.add_mul]
                            exact Nat.le_of_eq (by congr 1; omega)
                        · have e1 : (old' ++ vs' ++ rest).toArray.toList.take (r.cs ++ vs).length = old' ++ vs' := by
                            simp only [List.length_append]
                            rw [List.take_left' (by simp; omega)]
                          simp only [e1]
                          exact (ho1.append hvs).mono (Phi.le_ext hn)
                    · cases h
                  · cases h
          · cases h
        · cases h
      · cases h
    · cases h
  · cases h

theorem copy_run {argTypes : Array TypeId} {ty0 : TypeId} {x y x' y' v : Value} {s' : St} (h : copyv X argTypes x y s = some (v, s')) (hx : VRel φ x x') (hy : VRel φ y y') (hs : SRel X φ s.get w) :
    ∃ v' w', (Builtin.copy_ argTypes ty0 #[x', y']).run P w = .ok v' w' ∧ VRel φ v v' ∧ SRel X φ s'.get w' ∧ Step φ φ s s' w w' := by
  unfold copyv at h
  split at h
  · rename_i t ht
    split at h
    · rename_i e hu
      split at h
      · rename_i te base dLen cap m hte hm
        split at h
        · rename_i cs hcs
          have hlen : (Builtin.lenOf y').run P w = .ok m w := by
            unfold lenOfv at hm
            split at hm
            · cases hm; cases hy <;> rfl
            · cases hm; cases hy; rfl
            · cases hm
          obtain ⟨g1, cs', g2, g3⟩ := firstv_run (P := P) hcs (fun m' hm' => by rw [hm] at hm'; cases hm'; exact Nat.min_le_left _ _) hy hs
          have hu' := run_ud H w hu
          have hs' := run_size H w hte
          have g3' := g3 w rfl
          unfold copyTo at h
          split at h
          · split at h
            · cases h
              cases hx
              refine ⟨.int .i64 ((Nat.min m 0 : Nat) : Int), w, ?_, .int _ _, hs, Step.refl _ _ _⟩
              have g4 : (Builtin.firstCells te.size 0 y').run P w = .ok cs'.toArray w := by simpa using g3'
              simp [Builtin.copy_, ht, hu', hlen, hs', g4, goInt]
            · cases h
          · rename_i a
            cases hx with | slice a l len cap aa cap' hl h1 h2 h3 h4 h5 =>
            split at h
            · rename_i hn0
              cases h
              have : cs' = [] := List.eq_nil_of_length_eq_zero (by rw [← g2.length, g1, hn0]; simp)
              subst this
              refine ⟨_, w, ?_, .int _ _, hs, Step.refl _ _ _⟩
              simp [Builtin.copy_, ht, hu', hlen, hs', g3', goInt, storeCells]
            · rename_i hn0
              simp only [Option.map_eq_some_iff, Prod.mk.injEq] at h
              obtain ⟨s2, hw, rfl, rfl⟩ := h
              have hmin : Nat.min m dLen ≤ dLen := Nat.min_le_right m dLen
              have hco : aa = ⟨l.c, l.off + a.off, none⟩ := by
                rcases h1 with h1 | h1
                · exact h1
                · exfalso
                  have : Nat.min m dLen = 0 := by omega
                  exact hn0 this
              obtain ⟨w2, k1, k2, k3⟩ := store_run (P := P) hs hw (l := l) hl g2
              refine ⟨_, w2, ?_, .int _ _, k2, k3⟩
              subst hco
              simp [Builtin.copy_, ht, hu', hlen, hs', g3', goInt, k1]
        · cases h
      · cases h
    · cases h
  · cases h

theorem clear_run {argTypes : Array TypeId} {ty0 : TypeId} {x x' v : Value} {s' : St} (h : clearv X argTypes x s = some (v, s')) (hx : VRel φ x x') (hs : SRel X φ s.get w) :
    ∃ v' w', (Builtin.clear_ argTypes ty0 #[x']).run P w = .ok v' w' ∧ VRel φ v v' ∧ SRel X φ s'.get w' ∧ Step φ φ s s' w w' := by
  unfold clearv at h
  split at h
  · rename_i t ht
    split at h
    · rename_i ty hty
      have hu := run_und H w hty
      split at h
      · rename_i e hd
        rw [hd] at hu
        cases h; cases hx
        refine ⟨.tuple #[], w, ?_, .tuple _ _ .nil, hs, Step.refl _ _ _⟩
        simp [Builtin.clear_, ht, hu]
      · rename_i e a n cap hd
        rw [hd] at hu
        cases hx with | slice a l len cap aa cap' hl h1 h2 h3 h4 h5 =>
        split at h
        · rename_i hn0
          cases h
          subst hn0
          refine ⟨.tuple #[], w, ?_, .tuple _ _ .nil, hs, Step.refl _ _ _⟩
          simp [Builtin.clear_, ht, hu]
        · rename_i hn0
          split at h
          · rename_i te hte
            simp only [Option.map_eq_some_iff, Prod.mk.injEq] at h
            obtain ⟨s2, hw, rfl, rfl⟩ := h
            have hz := H.zero _ _ hte
            have hco : aa = ⟨l.c, l.off + a.off, none⟩ := by rcases h1 with h1 | h1; exact h1; omega
            obtain ⟨w2, k1, k2, k3⟩ := store_run (P := P) hs hw (l := l) hl (reps_rel (VRel.cst 2 _ hz.1).cells n)
            refine ⟨.tuple #[], w2, ?_, .tuple _ _ .nil, k2, k3⟩
            subst hco
            have hzr := run_zero H w hte
            rw [← zero_cells] at k1
            simp [Builtin.clear_, ht, hu, hzr, k1]
          · cases h
      · cases h
    · cases h
  · cases h

omit H in
theorem MRels.length {φ : Phi} : ∀ {l l' : List MapEntry}, MRels φ l l' → l.length = l'.length
  | _, _, .nil => rfl
  | _, _, .cons _ _ _ _ _ _ _ h => by simp [MRels.length h]
omit H in
theorem bytes_beq (a b : ByteArray) : (a == b) = (a.data.toList == b.data.toList) := by
  rw [beq_toListBytes, byteArray_toList, byteArray_toList]
omit H in
theorem find_rel {d : TypeDesc} {k k' : Value} (hk : VRel φ k k') : ∀ {es es' : List MapEntry} {i : Nat} {r : Option (Nat × Value)}, MRels φ es es' → findE d k es i = some r →
    (r = none ∧ Instr.findNow d k' es' i = some none) ∨ (∃ j v v', r = some (j, v) ∧ Instr.findNow d k' es' i = some (some (j, v')) ∧ VRel φ v v' ∧ i ≤ j ∧ ∃ e, es'[j - i]? = some e ∧ e.key = k')
  | _, _, i, r, .nil, h => by
    simp only [findE, Option.some.injEq] at h
    subst h
    exact .inl ⟨rfl, rfl⟩
  | _, _, i, r, .cons q v v' b l l' h1 h2, h => by
    have key : ∀ c, keyEq d k q = some c → Instr.sameNow d k' q = some c ∧ (c = true → q = k') := by
      intro c hc
      unfold keyEq at hc
      split at hc
      · cases hk
        split at hc
        · rename_i hkk; subst hkk; cases hc
          refine ⟨by simp [Instr.sameNow], fun hc => ?_⟩
          simp only [beq_iff_eq] at hc; rw [hc]
        · cases hc
      · cases hk
        cases hc
        refine ⟨by simp [Instr.sameNow, bytes_beq], fun hc => ?_⟩
        simp only [beq_iff_eq] at hc
        congr 1
        apply ByteArray.ext
        exact Array.toList_inj.1 hc.symm
      · cases hc
    simp only [findE] at h
    simp only [Instr.findNow]
    split at h
    · rename_i hc
      cases h
      obtain ⟨g1, g2⟩ := key true hc
      rw [g1]
      exact .inr ⟨i, v, v', rfl, rfl, h1, Nat.le_refl _, ⟨q, v', b⟩, by simp, (g2 rfl)⟩
    · rename_i hc
      obtain ⟨g1, _⟩ := key false hc
      rw [g1]
      rcases find_rel hk h2 h with h3 | ⟨j, u, u', h3, h4, h5, h6, e, h7, h8⟩
      · exact .inl h3
      · refine .inr ⟨j, u, u', h3, h4, h5, by omega, e, ?_, h8⟩
        have : j - i = (j - (i + 1)) + 1 := by omega
        rw [this]
        simpa using h7
    · cases h
omit H in
theorem checkKey_plain {t : TypeId} {d : TypeDesc} {k' : Value} (hd : (underlying t).run P w = .ok d w) (hk : keyTy d = true) (b : Bool) (n : Nat) : (Instr.checkKey b (n + 1) t k').run P w = .ok () w := by
  unfold keyTy at hk
  split at hk <;> simp [Instr.checkKey, hd] <;> cases hk

theorem lookup_run {t : Nat} {m k m' k' v : Value} {ok : Bool} (h : lookupv X t m k ok s = some v) (hm : VRel φ m m') (hk : VRel φ k k') (hs : SRel X φ s.get w) :
    ∃ v', (Instr.lookup t m' k' ok).run P w = .ok v' w ∧ VRel φ v v' := by
  unfold lookupv at h
  split at h
  · rename_i kt et hu
    split at h
    · rename_i dk te es hdk hte hes
      split at h
      · rename_i hkt
        have hu' := run_ud H w hu
        have hd := run_ud H w hdk
        have hz := run_zero H w hte
        -- the entries
        have hent : ∃ es', MRels φ es es'.toList ∧ ((m' = .map none ∧ es' = #[]) ∨ (∃ c clk, m' = .map (some c) ∧ (getObj c).run P w = .ok (.map es' clk) w)) := by
          unfold entries at hes
          split at hes
          · cases hes; cases hm; exact ⟨#[], .nil, .inl ⟨rfl, rfl⟩⟩
          · rename_i r
            split at hes
            · rename_i es0 clk hb
              cases hes
              cases hm with | map r l hl =>
              obtain ⟨_, es', g1, g2⟩ := hs.obj _ _ _ hl _ hb
              exact ⟨es', g2, .inr ⟨_, clk, rfl, by simp [getObj, Sem.run, g1]⟩⟩
            · cases hes
          · cases hes
        obtain ⟨es', he1, he2⟩ := hent
        have hck := fun b => checkKey_plain (k' := k') hd hkt b 9999
        split at h
        · rename_i j u hf
          cases h
          rcases find_rel hk he1 hf with ⟨h0, _⟩ | ⟨j', u0, u', h3, h4, h5, _⟩
          · cases h0
          · cases h3
            cases ok with
            | false => exact ⟨u', by rcases he2 with ⟨rfl, rfl⟩ | ⟨c, clk, rfl, hg⟩ <;> first | (simp [Instr.lookup, hu', hck, hd, hz, Instr.findKey, hg, h4]; done) | (simp at h4; simp [Instr.lookup, hu', hck, hd, hz, Instr.findKey, h4]; done), h5⟩
            | true => exact ⟨.tuple #[u', .bool true], by rcases he2 with ⟨rfl, rfl⟩ | ⟨c, clk, rfl, hg⟩ <;> first | (simp [Instr.lookup, hu', hck, hd, hz, Instr.findKey, hg, h4]; done) | (simp at h4; simp [Instr.lookup, hu', hck, hd, hz, Instr.findKey, h4]; done), .tuple _ _ (.cons _ _ _ _ h5 (.cons _ _ _ _ (.bool _) .nil))⟩
        · rename_i hf
          cases h
          have hzz := VRel.cst (φ := φ) 2 _ (H.zero _ _ hte).1
          rcases find_rel hk he1 hf with ⟨_, h4⟩ | ⟨j', u0, u', h3, _⟩
          · cases ok with
            | false => exact ⟨te.zero, by rcases he2 with ⟨rfl, rfl⟩ | ⟨c, clk, rfl, hg⟩ <;> first | (simp [Instr.lookup, hu', hck, hd, hz, Instr.findKey, hg, h4]; done) | (simp at h4; simp [Instr.lookup, hu', hck, hd, hz, Instr.findKey, h4]; done), hzz⟩
            | true => exact ⟨.tuple #[te.zero, .bool false], by rcases he2 with ⟨rfl, rfl⟩ | ⟨c, clk, rfl, hg⟩ <;> first | (simp [Instr.lookup, hu', hck, hd, hz, Instr.findKey, hg, h4]; done) | (simp at h4; simp [Instr.lookup, hu', hck, hd, hz, Instr.findKey, h4]; done), .tuple _ _ (.cons _ _ _ _ hzz (.cons _ _ _ _ (.bool _) .nil))⟩
          · cases h3
        · cases h
      · cases h
    · cases h
  · cases h
end
end Go.Proofs.Ytndedkpcfjnecaa.Ab
