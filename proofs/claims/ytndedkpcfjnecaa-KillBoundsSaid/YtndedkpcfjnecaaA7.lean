/- The operations that look into memory, or turn it. -/
import Derived.Test.YtndedkpcfjnecaaA6
import Derived.Lib.Strings
set_option linter.unusedSimpArgs false
set_option linter.unusedVariables false
namespace Go.Proofs.Ytndedkpcfjnecaa.Ab

theorem SRel.heap {X : Prg} {φ : Phi} {g : Nat → Option AObj} {w w' : World} (h : SRel X φ g w) (hw : w'.heap = w.heap) : SRel X φ g w' :=
  ⟨fun b e l hb o ho => (h.obj b e l hb o ho).world (fun _ _ _ h => h) (by rw [hw]), fun b e l hb => by rw [hw]; exact h.lt b e l hb, h.sep⟩

section
variable {X : Prg} {P : Program} (H : Sound X P) {φ : Phi} {s : St} {w : World}
include H

theorem loadv_run {t : Nat} {v v' u : Value} (h : loadv X t v s = some u) (hv : VRel φ v v') (hs : SRel X φ s.get w) : ∃ u', (Instr.loadAt t v').run P w = .ok u' w ∧ VRel φ u u' := by
  unfold loadv at h
  split at h
  · rename_i ty a hty
    cases hv with | ptr a l hl =>
    split at h
    · rename_i cs hcs
      obtain ⟨cs', h1, h2, h3⟩ := load_run (P := P) hs hcs hl
      split at h
      · rename_i hag
        cases h
        refine ⟨.agg cs'.toArray, ?_, .agg _ _ (by simpa using h1)⟩
        simp [Instr.loadAt, Instr.sureAddr, loadVar, run_agg H w hty, hag, run_size H w hty, h2 w rfl]
      · rename_i hag
        split at h
        · rename_i x
          cases h
          cases h1 with | cons _ x' _ _ hx hr =>
          cases hr
          have := h3 0 x' rfl
          refine ⟨x', ?_, hx⟩
          simp only [Bool.not_eq_true] at hag
          simp only [Nat.add_zero] at this
          simp [Instr.loadAt, Instr.sureAddr, loadVar, run_agg H w hty, hag, this]
        · cases h
    · cases h
  · cases h

theorem storev_run {t : Nat} {p p' v v' : Value} {s' : St} (h : storev X t p v s = some s') (hp : VRel φ p p') (hv : VRel φ v v') (hs : SRel X φ s.get w) :
    ∃ w', (Instr.storeAt t p' v').run P w = .ok () w' ∧ SRel X φ s'.get w' ∧ Step φ φ s s' w w' := by
  unfold storev at h
  split at h
  · rename_i ty a hty
    cases hp with | ptr a l hl =>
    split at h
    · rename_i hsz
      obtain ⟨w', h1, h2⟩ := store_run (P := P) hs h hl hv.cells
      refine ⟨w', ?_, h2⟩
      have hl2 := hv.cells.length
      simp only [Array.length_toList] at hl2
      simp [Instr.storeAt, Instr.sureAddr, storeVar, run_size H w hty, ← hl2, hsz, h1]
    · cases h
  · cases h

omit H in
theorem firstv_run {size n : Nat} {y y' : Value} {vs : List Value} (h : firstv s size n y = some vs) (hn0 : ∀ m, lenOfv y = some m → n ≤ m) (hy : VRel φ y y') (hs : SRel X φ s.get w) :
    vs.length = n * size ∧ ∃ vs', VRels φ vs vs' ∧ ∀ w' : World, w'.heap = w.heap → (Builtin.firstCells size n y').run P w' = .ok vs'.toArray w' := by
  unfold firstv at h
  split at h
  · rename_i a len cap
    cases hy with | slice a l len cap aa cap' hl h1 h2 h3 h4 h5 =>
    have hlen := (rd_rel hs h hl).1
    refine ⟨hlen, ?_⟩
    by_cases hc : cap' = 0
    · have : n = 0 := by have := hn0 len rfl; omega
      subst this
      have : vs = [] := by apply List.eq_nil_of_length_eq_zero; omega
      subst this
      exact ⟨[], .nil, fun w' _ => by simp [Builtin.firstCells, loadCells, loadCellsFrom]⟩
    · have hco : aa = ⟨l.c, l.off + a.off, none⟩ := by rcases h1 with h1 | h1; exact h1; exact absurd h1 hc
      subst hco
      obtain ⟨cs', g1, g2, g3⟩ := load_run (P := P) hs h hl
      exact ⟨cs', g1, fun w' hw => by simpa [Builtin.firstCells] using g2 w' hw⟩
  · rename_i len cap
    cases hy
    split at h
    · rename_i hn; cases h
      subst hn
      exact ⟨by simp, [], .nil, fun w' _ => by simp [Builtin.firstCells]⟩
    · cases h
  · rename_i b
    cases hy
    split at h
    · rename_i hn; cases h
      obtain ⟨hn, rfl⟩ := hn
      refine ⟨by simp [bytesOut]; omega, bytesOut (b.data.toList.take n), VRels.self _ fun v hv => ?_, fun w' _ => ?_⟩
      · unfold bytesOut at hv
        obtain ⟨c, _, rfl⟩ := List.mem_map.1 hv
        exact .int _ _
      · simp only [Builtin.firstCells, Sem.run_pure]
        congr 1
        apply Array.ext'
        simp only [Array.toList_map, bytesOut, Lib.extract_data, List.drop_zero, Nat.sub_zero]
    · cases h
  · cases h

omit H in
theorem reps_length (z : List Value) : ∀ n, (reps z n).length = n * z.length
  | 0 => by simp [reps]
  | n + 1 => by simp only [reps, List.length_append, reps_length z n, Nat.succ_mul]; omega
omit H in
theorem reps_rel {z z' : List Value} (h : VRels φ z z') : ∀ n, VRels φ (reps z n) (reps z' n)
  | 0 => .nil
  | n + 1 => h.append (reps_rel h n)
omit H in
theorem reps_get (z : List Value) : ∀ (n i : Nat), i < n * z.length → (reps z n)[i]? = z[i % z.length]?
  | 0, i, h => by simp at h
  | n + 1, i, h => by
    simp only [reps]
    by_cases hi : i < z.length
    · rw [List.getElem?_append_left hi, Nat.mod_eq_of_lt hi]
    · rw [List.getElem?_append_right (by omega), reps_get z n (i - z.length) (by rw [Nat.succ_mul] at h; omega)]
      congr 1
      rw [← Nat.mod_eq_sub_mod (by omega)]
omit H in
theorem zero_reps (zero : Array Value) (n : Nat) : ((Array.range (n * zero.size)).map (zero[· % zero.size]!)).toList = reps zero.toList n := by
  apply List.ext_getElem?
  intro i
  by_cases hi : i < n * zero.size
  · have hz : 0 < zero.size := by
      rcases Nat.eq_zero_or_pos zero.size with h | h
      · rw [h] at hi; simp at hi
      · exact h
    have hm : i % zero.size < zero.size := Nat.mod_lt _ hz
    rw [reps_get _ _ _ (by simpa using hi)]
    simp [hi, hm]
  · rw [List.getElem?_eq_none (l := reps zero.toList n) (by rw [reps_length]; simpa using hi), List.getElem?_eq_none (by simpa using hi)]
omit H in
theorem zero_cells (zero : Array Value) (n : Nat) : (Builtin.zeroCells zero n).toList = reps zero.toList n := zero_reps zero n

omit H in
theorem growBy_le (n : Nat) : ∀ (k c : Nat), 256 ≤ c → c ≤ 2 * n → Builtin.growBy n k c ≤ 2 * n
  | 0, c, _, h => h
  | k + 1, c, h0, h => by
    unfold Builtin.growBy
    split
    · exact h
    · exact growBy_le n k _ (by omega) (by omega)
omit H in
theorem nextcap_le (n c : Nat) (h : c < n) : Builtin.nextslicecap n c ≤ 2 * n := by
  unfold Builtin.nextslicecap
  split
  · omega
  · split
    · omega
    · exact growBy_le n 4 c (by omega) (by omega)

theorem newv_run {t1 : Nat} {te : Ty} {e n : Nat} {y y' : Value} {vs : List Value} (h : newv X t1 te y s = some (n, vs)) (hte : X.ty e = some te) (hy : VRel φ y y') (hs : SRel X φ s.get w) :
    vs.length = n * te.size ∧ ∃ d vs', (underlying t1).run P w = .ok d w ∧ VRels φ vs vs' ∧
      ((∃ k, d = .int k ∧ ∃ m k', y' = .int k' m ∧ 0 ≤ m ∧ m.toNat = n ∧ roomOk n te.bytes = true ∧ vs' = reps te.zero.cells.toList n) ∨
       ((∀ k, d ≠ .int k) ∧ (∀ w', (Builtin.lenOf y').run P w' = .ok n w') ∧ ∀ w', w'.heap = w.heap → (Builtin.firstCells te.size n y').run P w' = .ok vs'.toArray w')) := by
  unfold newv at h
  have hz := (H.zero _ _ hte)
  split at h
  · cases h
  · rename_i k hu
    split at h
    · rename_i k' m
      cases hy
      split at h
      · rename_i hc
        simp only [Option.some.injEq, Prod.mk.injEq] at h
        obtain ⟨rfl, rfl⟩ := h
        refine ⟨by rw [reps_length]; simp [hz.2.1], _, _, run_ud H w hu, reps_rel (VRel.cst 2 _ hz.1).cells _, .inl ⟨k, rfl, m, k', rfl, hc.1, rfl, hc.2, rfl⟩⟩
      · cases h
    · cases h
  · rename_i d hu hne
    split at h
    · rename_i m hm
      simp only [Option.map_eq_some_iff, Prod.mk.injEq] at h
      obtain ⟨l, hl, rfl, rfl⟩ := h
      obtain ⟨h1, vs', h2, h3⟩ := firstv_run hl (fun m' hm' => by rw [hm] at hm'; cases hm'; exact Nat.le_refl _) hy hs
      refine ⟨h1, d, vs', run_ud H w hne, h2, .inr ⟨fun k hk => ?_, fun w' => ?_, fun w' hw' => ?_⟩⟩
      · exact hu k (by rw [hk])
      · unfold lenOfv at hm
        split at hm
        · cases hm; cases hy <;> rfl
        · cases hm; cases hy; rfl
        · cases hm
      · exact h3 w' hw'
    · cases h


/-- What append finds behind its slice. -/
def Src (P : Program) (te : Ty) (zero : Array Value) (n : Nat) (y' : Value) (vs' : List Value) (d : TypeDesc) (w : World) : Prop :=
  (∃ k m k', d = .int k ∧ y' = .int k' m ∧ 0 ≤ m ∧ m.toNat = n ∧ roomOk n te.bytes = true ∧ vs' = reps zero.toList n) ∨
  ((∀ k, d ≠ .int k) ∧ (∀ w', (Builtin.lenOf y').run P w' = .ok n w') ∧ ∀ w' : World, w'.heap = w.heap → (Builtin.firstCells te.size n y').run P w' = .ok vs'.toArray w')

omit H in
theorem wrap_small {m : Int} (h0 : 0 ≤ m) (h1 : m ≤ 70368744177664) : IntKind.i64.wrap m = m := IntWalk.i64_in _ (by omega)

theorem app_room {argTypes : Array TypeId} {ty0 t t1 : TypeId} {e n sLen sCap : Nat} {te : Ty} {d : TypeDesc} {base : Option Addr} {y' : Value} {vs' : List Value} (ht : argTypes[0]? = some t) (ht1 : argTypes[1]? = some t1) (hu : X.und t = some (.slice e)) (hte : X.ty e = some te)
    (hd : (underlying t1).run P w = .ok d w) (hsrc : Src P te te.zero.cells n y' vs' d w) (hr : sLen + n ≤ sCap) :
    (Builtin.append_ argTypes ty0 #[.slice base sLen sCap, y']).run P w =
      ((match base with | some a => storeCells (a.add (sLen * te.size)) vs' | none => pure () : Sem Unit).run P w).andThen fun _ w2 => .ok (.slice base (sLen + n) sCap) w2 := by
  have hz := H.zero _ _ hte
  obtain ⟨i, hi, hi1, hi2, hi3⟩ := run_inf H w hte
  rcases hsrc with ⟨k, m, k', rfl, rfl, hm0, hmn, hroom, rfl⟩ | ⟨hnk, hlen, hcells⟩
  · simp only [roomOk, Bool.and_eq_true, decide_eq_true_eq] at hroom
    have hw := wrap_small hm0 (by omega)
    have h1 : ¬ m < 0 := by omega
    have h2 : ¬ (281474976710656 < m * (i.bytes : Int)) := by
      rw [hi2]
      have : m * (te.bytes : Int) ≤ 70368744177664 := by
        have h3 : m = (n : Int) := by omega
        rw [h3, ← Int.natCast_mul]; exact Int.ofNat_le.2 hroom.1
      omega
    subst hmn
    have hr' : sLen + m.toNat ≤ sCap := hr
    have hzr := run_zero H w hte
    have hrep : m.toNat * te.size = 0 → reps te.zero.cells.toList m.toNat = [] := fun h0 => List.eq_nil_of_length_eq_zero (by rw [reps_length]; simp [hz.2.1, h0])
    have hu' := run_ud H w hu
    have hs' := run_size H w hte
    simp [Builtin.append_, ht, ht1, hu', hs', hd, asInt, asIntOf, hw, h1, h2, hi, hr', hzr]
    by_cases h0 : m.toNat * te.size = 0
    · cases base <;> simp [h0, hrep h0]
    · cases base <;> simp [h0, zero_cells]
  · have hzz : (match d with | .int _ => true | _ => false) = false := by cases d <;> first | rfl | exact absurd rfl (hnk _)
    have hc := hcells w rfl
    have hu' := run_ud H w hu
    have hs' := run_size H w hte
    simp [Builtin.append_, ht, ht1, hu', hs', hd, hlen, hr, hc]
    cases base <;> simp

theorem app_grow {argTypes : Array TypeId} {ty0 t t1 : TypeId} {e n sLen sCap : Nat} {te : Ty} {d : TypeDesc} {base : Option Addr} {y' : Value} {vs' old : List Value} (ht : argTypes[0]? = some t) (ht1 : argTypes[1]? = some t1) (hu : X.und t = some (.slice e)) (hte : X.ty e = some te)
    (hd : (underlying t1).run P w = .ok d w) (hsrc : Src P te te.zero.cells n y' vs' d w) (hr : ¬ sLen + n ≤ sCap) (hroom : roomOk (sLen + n) te.bytes = true)
    (hold : ∀ w' : World, w'.heap = w.heap → (Builtin.firstCells te.size sLen (.slice base sLen sCap)).run P w' = .ok old.toArray w') :
    ∃ c rest w1, (Builtin.append_ argTypes ty0 #[.slice base sLen sCap, y']).run P w = .ok (.slice (some ⟨w.heap.size, 0, none⟩) (sLen + n) c) w1 ∧ sLen + n ≤ c ∧
      w1.heap = w.heap.push (.cells (old ++ vs' ++ rest).toArray e) ∧ w1.os = w.os ∧ w1.tape = w.tape ∧ w1.output = w.output ∧ rest.length = (c - (sLen + n)) * te.size := by
  have hz := H.zero _ _ hte
  obtain ⟨i, hi, hi1, hi2, hi3⟩ := run_inf H w hte
  have hinf : P.info? e = some i := by
    obtain ⟨i0, h1, _⟩ := H.info _ _ hte
    simp [typeInfo, h1] at hi
    rw [h1, hi]
  have hir : ∀ w', (typeInfo e).run P w' = .ok i w' := fun w' => by simp [typeInfo, hinf]
  simp only [roomOk, Bool.and_eq_true, decide_eq_true_eq] at hroom
  have hcap : ¬ (281474976710656 < Builtin.nextslicecap (sLen + n) sCap * i.bytes) := by
    have h1 := nextcap_le (sLen + n) sCap (by omega)
    have h2 := Nat.mul_le_mul_right i.bytes h1
    rw [hi2] at *
    have h3 : 2 * (sLen + n) * te.bytes = 2 * ((sLen + n) * te.bytes) := Nat.mul_assoc _ _ _
    omega
  have hmax : ¬ ((sLen + n : Nat) : Int) > IntKind.i64.max := by simp only [IntKind.max, IntKind.signed, IntKind.bits]; simp; omega
  have hmax2 : ¬ (9223372036854775807 < (sLen : Int) + (n : Int)) := by omega
  obtain ⟨c, hcc⟩ : ∃ c, c = (Question.appendCap (sLen + n) sCap e).cut (w.tape w.drawn (.appendCap (sLen + n) sCap e)) := ⟨_, rfl⟩
  refine ⟨c, (Builtin.zeroCells te.zero.cells (c - (sLen + n))).toList, w.drew.alloc (.cells (old ++ vs' ++ (Builtin.zeroCells te.zero.cells (c - (sLen + n))).toList).toArray e), ?_, ?_, rfl, rfl, rfl, rfl, ?_⟩
  rotate_left
  · rw [hcc]; exact Nat.le_add_right _ _
  · rw [zero_cells, reps_length]; simp [hz.2.1]
  have hold' := hold w.drew rfl
  have hzr := fun w' => run_zero H w' hte
  rcases hsrc with ⟨k, m, k', rfl, rfl, hm0, hmn, hroom2, rfl⟩ | ⟨hnk, hlen, hcells⟩
  · simp only [roomOk, Bool.and_eq_true, decide_eq_true_eq] at hroom2
    have hw := wrap_small hm0 (by omega)
    have h1 : ¬ m < 0 := by omega
    have hmax3 : ¬ (9223372036854775807 < (sLen : Int) + max m 0) := by omega
    have h2 : ¬ (281474976710656 < m * (i.bytes : Int)) := by
      rw [hi2]
      have : m * (te.bytes : Int) ≤ 70368744177664 := by
        have h3 : m = (n : Int) := by omega
        rw [h3, ← Int.natCast_mul]; exact Int.ofNat_le.2 hroom2.1
      omega
    subst hmn
    have hrep : m.toNat * te.size = 0 → reps te.zero.cells.toList m.toNat = [] := fun h0 => List.eq_nil_of_length_eq_zero (by rw [reps_length]; simp [hz.2.1, h0])
    have hu' := run_ud H w hu
    have hs' := run_size H w hte
    simp [Builtin.append_, ht, ht1, hu', hs', hd, asInt, asIntOf, hw, h1, h2, hir, hr, hcap, hmax3, Question.forced, Go.newRow, ← hcc]
    simp [hold', hzr]
    have e1 : (old ++ (reps te.zero.cells.toList m.toNat ++ (Builtin.zeroCells te.zero.cells (c - (sLen + m.toNat))).toList)).toArray = old.toArray ++ ((Builtin.zeroCells te.zero.cells m.toNat) ++ Builtin.zeroCells te.zero.cells (c - (sLen + m.toNat))) := by
      apply Array.ext'; simp [zero_cells]
    have e2 : m.toNat * te.size = 0 → Builtin.zeroCells te.zero.cells m.toNat = #[] := fun h0 => by
      apply Array.ext'; rw [zero_cells, hrep h0]
    by_cases h0 : m.toNat * te.size = 0
    · rw [e2 h0] at e1
      simp [h0, e1]
    · simp [h0, e1]
  · have hzz : (match d with | .int _ => true | _ => false) = false := by cases d <;> first | rfl | exact absurd rfl (hnk _)
    have hc := hcells w.drew rfl
    have hu' := run_ud H w hu
    have hs' := run_size H w hte
    simp [Builtin.append_, ht, ht1, hu', hs', hd, hlen, hr, hir, hcap, hmax2, Question.forced, Go.newRow, ← hcc]
    simp [hold', hzr, hc]
    have e1 : (old ++ (vs' ++ (Builtin.zeroCells te.zero.cells (c - (sLen + n))).toList)).toArray = old.toArray ++ (vs'.toArray ++ Builtin.zeroCells te.zero.cells (c - (sLen + n))) := by
      apply Array.ext'; simp
    simp [e1]
end
end Go.Proofs.Ytndedkpcfjnecaa.Ab
