/- Addresses, parts, literals, conversions. -/
import Derived.Test.YtndedkpcfjnecaaA4
set_option linter.unusedSimpArgs false
set_option linter.unusedVariables false
namespace Go.Proofs.Ytndedkpcfjnecaa.Ab

theorem add_none (c o n : Nat) : (⟨c, o, none⟩ : Addr).add n = ⟨c, o + n, none⟩ := by unfold Addr.add; split <;> simp_all
theorem VRel.fwd {φ : Phi} {a : Addr} {l : Loc} (n : Nat) (h : φ a.block (ep a) = some l) : VRel φ (.pointer (some (Addr.fwd a n))) (.pointer (some ⟨l.c, l.off + a.off + n, none⟩)) := by
  have := VRel.ptr (φ := φ) (Addr.fwd a n) l h
  simpa [Addr.fwd, Nat.add_assoc] using this

section
variable {X : Prg} {P : Program} (H : Sound X P) {φ : Phi} (w : World)

theorem nilCheck_run {x x' v : Value} (h : nilCheckv x = some v) (hx : VRel φ x x') : x' ≠ .pointer none ∧ x' ≠ .nilIface ∧ x' ≠ .nilFunc ∧ (∀ m f c, x' ≠ .func (.method m) f c) ∧ VRel φ v x' := by
  unfold nilCheckv at h
  split at h
  · cases h
    refine ⟨?_, ?_, ?_, ?_, hx⟩ <;> cases hx <;> intros <;> simp
  · cases h
    refine ⟨?_, ?_, ?_, ?_, hx⟩ <;> cases hx <;> intros <;> simp
  · cases h

include H
theorem fieldAddr_run {t f : Nat} {x x' v : Value} (h : fieldAddrv X t x f = some v) (hx : VRel φ x x') : ∃ v', (Instr.fieldAt t x' f).run P w = .ok v' w ∧ VRel φ v v' := by
  unfold fieldAddrv at h
  split at h
  · rename_i fs a hu
    cases hx with | ptr a l hl =>
    split at h
    · rename_i fd hfd
      split at h
      · rename_i ty hty
        split at h
        · rename_i hsz; cases h
          refine ⟨_, ?_, VRel.fwd fd.offset hl⟩
          simp only [Instr.fieldAt, Sem.run_bind, run_ud H w hu, Result.andThen_ok, hfd]
          simp [Instr.sureAddr, fieldPlace, run_size H w hty, hsz, add_none]
        · cases h
      · cases h
    · cases h
  · cases h

theorem field_run {t f : Nat} {x x' v : Value} (h : fieldv X t x f = some v) (hx : VRel φ x x') : ∃ v', (Instr.field t x' f).run P w = .ok v' w ∧ VRel φ v v' := by
  unfold fieldv at h
  split at h
  · rename_i fs cs hu
    cases hx with | agg a a' ha =>
    split at h
    · rename_i fd hfd
      obtain ⟨v', h1, h2⟩ := part_run H w h ha
      refine ⟨v', ?_, h2⟩
      simp only [Instr.field, Sem.run_bind, run_ud H w hu, Result.andThen_ok, hfd]
      simp [asAgg, h1]
    · cases h
  · cases h

theorem indexAddr_run {t : Nat} {x x' i i' v : Value} (h : indexAddrv X t x i = some v) (hx : VRel φ x x') (hi : VRel φ i i') : ∃ v', (Instr.indexAt t x' i').run P w = .ok v' w ∧ VRel φ v v' := by
  unfold indexAddrv at h
  split at h
  · rename_i n e a k j hu
    cases hx with | ptr a l hl =>
    cases hi
    split at h
    · rename_i te hte
      split at h
      · rename_i hc; cases h
        refine ⟨_, ?_, VRel.fwd _ hl⟩
        simp [Instr.indexAt, asIntOf, run_ud H w hu, Instr.sureAddr, hc.1, hc.2.1, run_size H w hte, add_none]
      · cases h
    · cases h
  · rename_i e a len cap k j hu
    cases hx with | slice a l len cap aa cap' hl h1 h2 h3 h4 h5 =>
    cases hi
    split at h
    · rename_i te hte
      split at h
      · rename_i hc; cases h
        have hcap : cap' ≠ 0 := by omega
        have hco : aa = ⟨l.c, l.off + a.off, none⟩ := by rcases h1 with h1 | h1; exact h1; exact absurd h1 hcap
        subst hco
        refine ⟨_, ?_, VRel.fwd _ hl⟩
        simp [Instr.indexAt, asIntOf, run_ud H w hu, hc.1, hc.2.1, run_size H w hte, add_none]
      · cases h
    · cases h
  · cases h

theorem index_run {t : Nat} {x x' i i' v : Value} (h : indexv X t x i = some v) (hx : VRel φ x x') (hi : VRel φ i i') : ∃ v', (Instr.index t x' i').run P w = .ok v' w ∧ VRel φ v v' := by
  unfold indexv at h
  split at h
  · rename_i n e a k j hu
    cases hx with | agg a a' ha =>
    cases hi
    split at h
    · rename_i te hte
      split at h
      · rename_i hc
        obtain ⟨v', h1, h2⟩ := part_run H w h ha
        refine ⟨v', ?_, h2⟩
        simp [Instr.index, asIntOf, run_ud H w hu, hc.1, hc.2, run_size H w hte, h1]
      · cases h
    · cases h
  · rename_i b k j hu
    cases hx; cases hi
    split at h
    · rename_i hc
      simp only [Option.map_eq_some_iff] at h
      obtain ⟨c, hc1, rfl⟩ := h
      refine ⟨_, ?_, .int _ _⟩
      have hlt : j.toNat < b.size := by omega
      have hb : b[j.toNat]? = some c := by
        rw [List.getElem?_eq_some_iff] at hc1
        obtain ⟨h1, h2⟩ := hc1
        rw [getElem?_pos b j.toNat hlt]
        congr 1
      simp [Instr.index, asIntOf, run_ud H w hu, hc.1, hb]
    · cases h
  · cases h

omit H in
theorem bound_run {v v' : Option Value} {d y n : Nat} {code : BoundsCode} (h : bnd v d y = some n) (hv : ∀ x, v = some x → ∃ x', v' = some x' ∧ VRel φ x x') (hn : v = none → v' = none) :
    (match v' with | some x => Instr.sliceBound x y code | none => (pure d : Sem Nat)).run P w = .ok n w := by
  unfold bnd at h
  split at h
  · rw [hn rfl]; cases h; rfl
  · obtain ⟨x', rfl, hx⟩ := hv _ rfl
    cases hx
    split at h
    · rename_i hc; cases h
      simp [Instr.sliceBound, asIntOf, hc.1, hc.2]
    · cases h
  · cases h

omit H in
theorem fill_rel {place : Nat → Option (Nat × Nat)} : ∀ (ps ps' : List (Nat × Value)) (cs cs' r : Array Value), ps.map (·.1) = ps'.map (·.1) → VRels φ (ps.map (·.2)) (ps'.map (·.2)) → VRels φ cs.toList cs'.toList →
    Instr.fill place cs ps = some r → ∃ r', Instr.fill place cs' ps' = some r' ∧ VRels φ r.toList r'.toList
  | [], [], cs, cs', r, _, _, h, hf => by
    simp only [Instr.fill, Option.some.injEq] at hf
    subst hf
    exact ⟨cs', rfl, h⟩
  | (i, v) :: ps, (j, v') :: ps', cs, cs', r, hn, hv, h, hf => by
    simp only [List.map_cons, List.cons.injEq] at hn
    obtain ⟨rfl, hn⟩ := hn
    simp only [List.map_cons] at hv
    cases hv with | cons _ _ _ _ h1 h2 =>
    simp only [Instr.fill] at hf ⊢
    split at hf
    · cases hf
    · rename_i off size hp
      have hc := h1.cells
      have hl := hc.length
      have hcl := h.length
      simp only [Array.length_toList] at hl hcl
      split at hf
      · cases hf
      · rename_i hsz
        rw [hl, hcl] at hsz
        rw [if_neg hsz]
        refine fill_rel ps ps' _ _ r hn h2 ?_ hf
        have key : ∀ (us us' : List Value) (k : Nat) (c c' : Array Value), VRels φ us us' → VRels φ c.toList c'.toList →
            VRels φ ((us.zipIdx k).foldl (fun cs (c, j) => cs.setIfInBounds (off + j) c) c).toList ((us'.zipIdx k).foldl (fun cs (c, j) => cs.setIfInBounds (off + j) c) c').toList := by
          intro us
          induction us with
          | nil => intro us' k c c' hu hcc; cases hu; exact hcc
          | cons u us ih =>
            intro us' k c c' hu hcc
            cases hu with | cons _ u' _ us' hu1 hu2 =>
            simp only [List.zipIdx_cons, List.foldl_cons]
            refine ih _ _ _ _ hu2 ?_
            simp only [Array.toList_setIfInBounds]
            refine VRels.of_get _ _ (by simp [hcc.length]) fun m x hm => ?_
            rw [List.getElem?_set] at hm ⊢
            have := hcc.length
            split at hm
            · rename_i he
              split at hm
              · rename_i hlt
                simp only [Option.some.injEq] at hm
                subst hm
                exact ⟨u', by rw [if_pos he, if_pos (by omega)], hu1⟩
              · cases hm
            · rename_i he
              rw [if_neg he]
              exact hcc.get m x hm
        have := key v.cells.toList v'.cells.toList 0 cs cs' hc h
        rw [← Array.foldl_toList, ← Array.foldl_toList, Array.toList_zipIdx, Array.toList_zipIdx]
        exact this
  | [], _ :: _, _, _, _, hn, _, _, _ => by simp at hn
  | _ :: _, [], _, _, _, hn, _, _, _ => by simp at hn

theorem places_run : ∀ (fs : List Field) (l : List (Nat × Nat)), places X fs = some l → (fs.mapM fun f => do pure (f.offset, ← sizeOf f.type) : Sem (List (Nat × Nat))).run P w = .ok l w
  | [], l, h => by simp only [places, Option.some.injEq] at h; subst h; rfl
  | f :: fs, l, h => by
    simp only [places] at h
    split at h
    · rename_i ty r hty hr
      cases h
      have ih := places_run fs r hr
      simp only [List.mapM_cons, Sem.run_bind, run_size H w hty, Result.andThen_ok, Sem.run_pure, ih]
    · cases h

theorem build_run {t : Nat} {ps : List (Nat × Value)} {ps' : Array (Nat × Value)} {v : Value} (h : buildv X t ps = some v) (hn : ps.map (·.1) = ps'.toList.map (·.1)) (hv : VRels φ (ps.map (·.2)) (ps'.toList.map (·.2))) :
    ∃ v', (Instr.build t ps').run P w = .ok v' w ∧ VRel φ v v' := by
  unfold buildv at h
  split at h
  · cases h
  · rename_i ty hty
    have hz : VRels φ ty.zero.cells.toList ty.zero.cells.toList := (VRel.cst 2 ty.zero (H.zero _ _ hty).1).cells
    split at h
    · rename_i fs hu
      split at h
      · rename_i l hl
        simp only [Option.map_eq_some_iff] at h
        obtain ⟨r, hr, rfl⟩ := h
        obtain ⟨r', h1, h2⟩ := fill_rel (φ := φ) _ _ _ _ _ hn hv hz hr
        refine ⟨.agg r', ?_, .agg _ _ h2⟩
        have hu' := run_und H w hty
        rw [hu] at hu'
        have hp := places_run H w _ _ hl
        have hp' : (fs.mapM fun f => do pure (f.offset, ← sizeOf f.type) : Sem (Array (Nat × Nat))).run P w = .ok l.toArray w := by
          rw [Array.mapM_eq_mapM_toList]
          simp only [Sem.run_map, hp, Result.andThen_ok]
        simp only [Instr.build, Sem.run_bind, run_zero H w hty, Result.andThen_ok, hu', hp']
        simp [h1]
      · cases h
    · rename_i n e hu
      split at h
      · rename_i te hte
        simp only [Option.map_eq_some_iff] at h
        obtain ⟨r, hr, rfl⟩ := h
        obtain ⟨r', h1, h2⟩ := fill_rel (φ := φ) _ _ _ _ _ hn hv hz hr
        refine ⟨.agg r', ?_, .agg _ _ h2⟩
        have hu' := run_und H w hty
        rw [hu] at hu'
        simp only [Instr.build, Sem.run_bind, run_zero H w hty, Result.andThen_ok, hu', run_size H w hte]
        simp [h1]
      · cases h
    · cases h

omit H in
theorem len_slice {a : Option Addr} {n c : Nat} {x' : Value} (h : VRel φ (.slice a n c) x') : ∃ b c', x' = .slice b n c' := by
  cases h with
  | nilSlice => exact ⟨_, _, rfl⟩
  | slice => exact ⟨_, _, rfl⟩

omit H in
theorem min_run : ∀ (r r' : List Value) (x x' v : Value), foldv min2v x r = some v → VRel φ x x' → VRels φ r r' → ∃ v', (r'.foldlM Builtin.min2 x').run P w = .ok v' w ∧ VRel φ v v'
  | [], _, x, x', v, h, hx, .nil => by
    simp only [foldv, Option.some.injEq] at h
    subst h
    exact ⟨x', rfl, hx⟩
  | y :: r, _, x, x', v, h, hx, .cons _ y' _ r' hy hr => by
    simp only [foldv] at h
    split at h
    · rename_i z hz
      unfold min2v at hz
      split at hz
      · cases hx; cases hy; cases hz
        obtain ⟨v', h1, h2⟩ := min_run r r' _ _ v h (.int _ _) hr
        exact ⟨v', by simpa [Builtin.min2] using h1, h2⟩
      · cases hz
    · cases h
omit H in
theorem max_run : ∀ (r r' : List Value) (x x' v : Value), foldv max2v x r = some v → VRel φ x x' → VRels φ r r' → ∃ v', (r'.foldlM Builtin.max2 x').run P w = .ok v' w ∧ VRel φ v v'
  | [], _, x, x', v, h, hx, .nil => by
    simp only [foldv, Option.some.injEq] at h
    subst h
    exact ⟨x', rfl, hx⟩
  | y :: r, _, x, x', v, h, hx, .cons _ y' _ r' hy hr => by
    simp only [foldv] at h
    split at h
    · rename_i z hz
      unfold max2v at hz
      split at hz
      · cases hx; cases hy; cases hz
        obtain ⟨v', h1, h2⟩ := max_run r r' _ _ v h (.int _ _) hr
        exact ⟨v', by simpa [Builtin.max2] using h1, h2⟩
      · cases hz
    · cases h

end

inductive OptRel (φ : Phi) : Option Value → Option Value → Prop
  | none : OptRel φ none none
  | some (v v' : Value) : VRel φ v v' → OptRel φ (some v) (some v')
section
variable {X : Prg} {P : Program} (H : Sound X P) {φ : Phi} (w : World)
theorem sb_run {v v' : Value} {d y y' n : Nat} (code : BoundsCode) (h : bnd (some v) d y = some n) (hv : VRel φ v v') (hy : y ≤ y') : (Instr.sliceBound v' y' code).run P w = .ok n w ∧ n ≤ y := by
  unfold bnd at h
  split at h
  · rename_i h0; cases h0
  · rename_i k i h0
    cases h0
    cases hv
    split at h
    · rename_i hc; cases h
      have h2 : i ≤ (y' : Int) := by omega
      refine ⟨by simp [Instr.sliceBound, asIntOf, hc.1, h2], by omega⟩
    · cases h
  · cases h
theorem sbs_run {lo hi lo' hi' : Option Value} {len y cap' h l : Nat} (isS : Bool) (hlo : OptRel φ lo lo') (hhi : OptRel φ hi hi') (h1 : bnd hi len y = some h) (h2 : bnd lo 0 h = some l) (hy : y ≤ cap') :
    (Instr.sliceBounds isS len cap' lo' hi' none).run P w = .ok (l, h, cap') w ∧ l ≤ h ∧ (h ≤ y ∨ h = len) := by
  have hl : (match lo' with | some v => Instr.sliceBound v h .sliceB | none => (pure 0 : Sem Nat)).run P w = .ok l w ∧ l ≤ h := by
    cases hlo with
    | none => simp only [bnd, Option.some.injEq] at h2; subst h2; exact ⟨rfl, by omega⟩
    | some v v' hv => exact sb_run w _ h2 hv (Nat.le_refl _)
  unfold Instr.sliceBounds
  cases hhi with
  | none =>
    simp only [bnd, Option.some.injEq] at h1
    subst h1
    refine ⟨?_, hl.2, .inr rfl⟩
    have := hl.1
    cases hlo with
    | none => simp_all
    | some v v' hv => simp_all
  | some v v' hv =>
    have hh := sb_run (P := P) w (if isS then .sliceAcap else .sliceAlen) h1 hv hy
    refine ⟨?_, hl.2, .inl hh.2⟩
    have := hl.1
    have h3 := hh.1
    cases hlo with
    | none => simp_all
    | some v v' hv => simp_all

include H
theorem slice_run {t : Nat} {x x' v : Value} {lo hi mx lo' hi' mx' : Option Value} (h : sliceOp X t x lo hi mx = some v) (hx : VRel φ x x') (hlo : OptRel φ lo lo') (hhi : OptRel φ hi hi') (hmx : OptRel φ mx mx') :
    ∃ v', (Instr.sliceAt t x' lo' hi' mx').run P w = .ok v' w ∧ VRel φ v v' := by
  unfold sliceOp at h
  split at h
  · cases h
  · rename_i ty hty
    have hu := run_und H w hty
    split at h
    · -- a string
      rename_i b he
      rw [he] at hu
      cases hx
      split at h
      · cases h
      · rename_i hm
        cases hmx with
        | some => simp at hm
        | none =>
        split at h
        · rename_i hh hhe
          split at h
          · rename_i l hle
            cases h
            obtain ⟨h1, _, _⟩ := sbs_run (P := P) w false hlo hhi hhe hle (Nat.le_refl _)
            refine ⟨_, ?_, .string _⟩
            simp [Instr.sliceAt, Instr.slice, hu, h1]
          · cases h
        · cases h
    · -- nil
      rename_i e len cap he
      rw [he] at hu
      split at h
      · cases h
      · rename_i hlen
        cases hx with | nilSlice =>
        split at h
        · rename_i m hh l hm1 hh1 hl1
          split at h
          · cases h
          · rename_i hmh
            split at h
            · rename_i hte
              cases h
              obtain ⟨te, hte⟩ := Option.isSome_iff_exists.1 hte
              refine ⟨.slice none 0 0, ?_, .nilSlice⟩
              cases hmx with
              | none =>
                have hh0 : hh = 0 := by
                  cases hhi with
                  | none => simpa [bnd] using hh1.symm
                  | some v v' hv => have := (sb_run (P := P) w .index hh1 hv (Nat.le_refl _)).2; omega
                subst hh0
                have hl0 : l = 0 := by
                  cases hlo with
                  | none => simpa [bnd] using hl1.symm
                  | some v v' hv => have := (sb_run (P := P) w .index hl1 hv (Nat.le_refl _)).2; omega
                subst hl0
                obtain ⟨h1, _, _⟩ := sbs_run (P := P) w true hlo hhi hh1 hl1 (Nat.le_refl _)
                simp [Instr.sliceAt, Instr.slice, hu, h1, run_size H w hte]
              | some m0 m0' hm0 =>
                have hm2 : bnd (some m0) 0 0 = some m := by simpa using hm1
                obtain ⟨h1, h2⟩ := sb_run (P := P) w .slice3Acap hm2 hm0 (Nat.le_refl _)
                obtain rfl : m = 0 := by omega
                cases hhi with
                | none => simp at hmh
                | some v v' hv =>
                  obtain ⟨h3, h4⟩ := sb_run (P := P) w .slice3B hh1 hv (Nat.le_refl _)
                  obtain rfl : hh = 0 := by omega
                  cases hlo with
                  | none =>
                    obtain rfl : l = 0 := by simpa [bnd] using hl1.symm
                    simp [Instr.sliceAt, Instr.slice, Instr.sliceBounds, hu, h1, h3, run_size H w hte]
                  | some u u' hu' =>
                    obtain ⟨h5, h6⟩ := sb_run (P := P) w .slice3C hl1 hu' (Nat.le_refl _)
                    obtain rfl : l = 0 := by omega
                    simp [Instr.sliceAt, Instr.slice, Instr.sliceBounds, hu, h1, h3, h5, run_size H w hte]
            · cases h
        · cases h
    · -- a slice
      rename_i e a len cap he
      rw [he] at hu
      cases hx with | slice a loc len cap aa cap' hl h1 h2 h3 h4 h5 =>
      split at h
      · cases h
      · rename_i te hte
        have fw : ∀ (n : Nat), φ (Addr.fwd a n).block (ep (Addr.fwd a n)) = some loc := fun n => hl
        split at h
        · -- three indices
          rename_i k m
          split at h
          · cases h
          · rename_i hhs
            split at h
            · rename_i hmc
              split at h
              · rename_i hh hh1
                split at h
                · rename_i l hl1
                  cases h
                  cases hmx with | some _ _ hm0 =>
                  cases hm0
                  cases hhi with
                  | none => simp at hhs
                  | some hv hv' hvr =>
                  have hm3 : m ≤ (cap' : Int) := by omega
                  obtain ⟨g1, g2⟩ := sb_run (P := P) w .slice3B hh1 hvr (Nat.le_refl _)
                  have hm' : (Instr.sliceBound (.int k m) cap' .slice3Acap).run P w = .ok m.toNat w := by simp [Instr.sliceBound, asIntOf, hmc.1, hm3]
                  have hb : (Instr.sliceBounds true len cap' lo' (some hv') (some (.int k m))).run P w = .ok (l, hh, m.toNat) w ∧ l ≤ hh := by
                    cases hlo with
                    | none =>
                      obtain rfl : l = 0 := by simpa [bnd] using hl1.symm
                      exact ⟨by simp [Instr.sliceBounds, hm', g1], by omega⟩
                    | some u u' hu' =>
                      obtain ⟨g3, g4⟩ := sb_run (P := P) w .slice3C hl1 hu' (Nat.le_refl _)
                      exact ⟨by simp [Instr.sliceBounds, hm', g1, g3], g4⟩
                  refine ⟨.slice (some (if m.toNat = l then aa else aa.add (l * te.size))) (hh - l) (m.toNat - l), ?_, ?_⟩
                  · simp only [Instr.sliceAt, Instr.slice, hu, Sem.run_bind, Result.andThen_ok, hb.1, run_size H w hte, Sem.run_pure]
                    split <;> simp [add_none]
                  · have hx1 := hb.2
                    split
                    · rename_i hml
                      refine VRel.slice (Addr.fwd a (l * te.size)) loc _ _ _ _ (fw _) (.inr (by omega)) (by omega) ?_ ?_ ?_ <;> unfold capX <;> intros <;> omega
                    · rename_i hml
                      have hc0 : aa = ⟨loc.c, loc.off + a.off, none⟩ := by rcases h1 with h1 | h1; exact h1; omega
                      refine VRel.slice (Addr.fwd a (l * te.size)) loc _ _ _ _ (fw _) (.inl ?_) (by omega) ?_ ?_ ?_
                      · rw [hc0, add_none]; simp only [Addr.fwd]; congr 1; omega
                      all_goals (unfold capX; intros; omega)
                · cases h
              · cases h
            · cases h
        · cases h
        · -- two indices
          split at h
          · rename_i hh hh1
            split at h
            · rename_i l hl1
              cases h
              cases hmx with | none =>
              obtain ⟨g1, g2, g3⟩ := sbs_run (P := P) w true hlo hhi hh1 hl1 h4
              refine ⟨.slice (some (if cap' = l then aa else aa.add (l * te.size))) (hh - l) (cap' - l), ?_, ?_⟩
              · simp only [Instr.sliceAt, Instr.slice, hu, Sem.run_bind, Result.andThen_ok, g1, run_size H w hte, Sem.run_pure]
                split <;> simp [add_none]
              · have hlc : hh ≤ cap' := by omega
                have key : ∀ co : Addr, (co = ⟨loc.c, loc.off + (a.off + l * te.size), none⟩ ∨ cap' - l = 0) → VRel φ (.slice (some (Addr.fwd a (l * te.size))) (hh - l) (if cap % 2 = 1 then capX (cap / 2 - l) else capO (cap / 2 - l))) (.slice (some co) (hh - l) (cap' - l)) := by
                  intro co hco
                  refine VRel.slice (Addr.fwd a (l * te.size)) loc _ _ _ _ (fw _) hco (by omega) ?_ ?_ ?_
                  · intro ho
                    split at ho
                    · rename_i hodd
                      rw [if_pos hodd]; have := h3 hodd; unfold capX at *; omega
                    · unfold capO at ho; omega
                  · split
                    · rename_i hodd; have := h3 hodd; unfold capX; omega
                    · unfold capO; omega
                  · intro hev hoff
                    split at hev
                    · unfold capX at hev; omega
                    · rename_i hodd
                      have := h5 (by omega) (by simp only [Addr.fwd] at hoff; omega)
                      exact Nat.le_trans (Nat.mul_le_mul_right _ (Nat.sub_le _ _)) this
                by_cases hcl : cap' = l
                · rw [if_pos hcl]; exact key _ (.inr (by omega))
                · rw [if_neg hcl]
                  refine key _ (.inl ?_)
                  have hc0 : aa = ⟨loc.c, loc.off + a.off, none⟩ := by rcases h1 with h1 | h1; exact h1; omega
                  rw [hc0, add_none]; congr 1; omega
            · cases h
          · cases h
    · -- an array
      rename_i n e a he
      rw [he] at hu
      cases hx with | ptr a loc hl =>
      split at h
      · cases h
      · rename_i hm
        cases hmx with
        | some => simp at hm
        | none =>
        split at h
        · rename_i te hh hte hh1
          split at h
          · rename_i l hl1
            cases h
            obtain ⟨g1, g2, g3⟩ := sbs_run (P := P) w false hlo hhi hh1 hl1 (Nat.le_refl _)
            refine ⟨.slice (some (if n = l then ⟨loc.c, loc.off + a.off, none⟩ else ⟨loc.c, loc.off + a.off + l * te.size, none⟩)) (hh - l) (n - l), ?_, ?_⟩
            · simp only [Instr.sliceAt, hu, Sem.run_bind, Result.andThen_ok, Instr.sureAddr, Sem.run_pure, g1, run_size H w hte]
              split <;> simp [add_none]
            · split
              · refine VRel.slice (Addr.fwd a (l * te.size)) loc _ _ _ _ hl (.inr (by omega)) (by omega) ?_ ?_ ?_ <;> unfold capX <;> intros <;> omega
              · refine VRel.slice (Addr.fwd a (l * te.size)) loc _ _ _ _ hl (.inl ?_) (by omega) ?_ ?_ ?_
                · simp only [Addr.fwd]; congr 1; omega
                all_goals (unfold capX; intros; omega)
          · cases h
        · cases h
    · cases h
end
end Go.Proofs.Ytndedkpcfjnecaa.Ab
