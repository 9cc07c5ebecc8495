/- The operations that look into memory, or turn it. -/
import Derived.Test.YticllcglldbffaaC1
import Derived.Lib.Strings
import Derived.Laws.BytesArg
import Derived.Lib.ConvBytes
import Derived.Lib.Builder
import Derived.Lib.UnsafeStr
import Derived.Orders
set_option linter.unusedSimpArgs false
set_option linter.unusedVariables false
set_option linter.unusedSectionVars false
section
namespace Go.Proofs.Yticllcglldbffaa.Ab
theorem SRel.heap {X : Prg} {φ : Phi} {g : Nat → Option AObj} {w w' : World} (h : SRel X φ g w) (hw : w'.heap = w.heap) : SRel X φ g w' :=
  ⟨fun b e l hb o ho => (h.obj b e l hb o ho).world (fun _ _ _ h => h) (by rw [hw]), fun b e l hb => by rw [hw]; exact h.lt b e l hb, h.sep⟩
section
variable {X : Prg} {P : Program} (H : Sound X P) {φ : Phi} {s : St} {w : World}
include H
theorem loadv_run {t : Nat} {v v' u : Value} (h : loadv X t v s = some u) (hv : VRel φ v v') (hs : SRel X φ s.get w) : ∃ u', (Instr.loadAt t v').run P w = .ok u' w ∧ VRel φ u u' := by
  unfold loadv at h
  split at h
  · rename_i ty a hty
    cases hv with | ptr a l hl =>
    split at h
    · rename_i cs hcs
      obtain ⟨cs', h1, h2, h3⟩ := load_run (P := P) hs hcs hl
      split at h
      · rename_i hag
        cases h
        refine ⟨.agg cs'.toArray, ?_, .agg _ _ (by simpa using h1)⟩
        simp [Instr.loadAt, Instr.sureAddr, loadVar, run_agg H w hty, hag, run_size H w hty, h2 w rfl]
      · rename_i hag
        split at h
        · rename_i x
          cases h
          cases h1 with | cons _ x' _ _ hx hr =>
          cases hr
          have := h3 0 x' rfl
          refine ⟨x', ?_, hx⟩
          simp only [Bool.not_eq_true] at hag
          simp only [Nat.add_zero] at this
          simp [Instr.loadAt, Instr.sureAddr, loadVar, run_agg H w hty, hag, this]
        · cases h
    · cases h
  · cases h
theorem storev_run {t : Nat} {p p' v v' : Value} {s' : St} (h : storev X t p v s = some s') (hp : VRel φ p p') (hv : VRel φ v v') (hs : SRel X φ s.get w) :
    ∃ w', (Instr.storeAt t p' v').run P w = .ok () w' ∧ SRel X φ s'.get w' ∧ Step φ φ s s' w w' := by
  unfold storev at h
  split at h
  · rename_i ty a hty
    cases hp with | ptr a l hl =>
    split at h
    · rename_i hsz
      obtain ⟨w', h1, h2⟩ := store_run (P := P) hs h hl hv.cells
      refine ⟨w', ?_, h2⟩
      have hl2 := hv.cells.length
      simp only [Array.length_toList] at hl2
      simp [Instr.storeAt, Instr.sureAddr, storeVar, run_size H w hty, ← hl2, hsz, h1]
    · cases h
  · cases h
omit H in
theorem firstv_run {size n : Nat} {y y' : Value} {vs : List Value} (h : firstv s size n y = some vs) (hn0 : ∀ m, lenOfv y = some m → n ≤ m) (hy : VRel φ y y') (hs : SRel X φ s.get w) :
    vs.length = n * size ∧ ∃ vs', VRels φ vs vs' ∧ ∀ w' : World, w'.heap = w.heap → (Builtin.firstCells size n y').run P w' = .ok vs'.toArray w' := by
  unfold firstv at h
  split at h
  · rename_i a len cap
    cases hy with | slice a l len cap aa cap' hl h1 h2 h3 h4 h5 =>
    have hlen := (rd_rel hs h hl).1
    refine ⟨hlen, ?_⟩
    by_cases hc : cap' = 0
    · have : n = 0 := by have := hn0 len rfl; omega
      subst this
      have : vs = [] := by apply List.eq_nil_of_length_eq_zero; omega
      subst this
      exact ⟨[], .nil, fun w' _ => by simp [Builtin.firstCells, loadCells, loadCellsFrom]⟩
    · have hco : aa = ⟨l.c, l.off + a.off, none⟩ := by rcases h1 with h1 | h1; exact h1; exact absurd h1 hc
      subst hco
      obtain ⟨cs', g1, g2, g3⟩ := load_run (P := P) hs h hl
      exact ⟨cs', g1, fun w' hw => by simpa [Builtin.firstCells] using g2 w' hw⟩
  · rename_i len cap
    cases hy
    split at h
    · rename_i hn; cases h
      subst hn
      exact ⟨by simp, [], .nil, fun w' _ => by simp [Builtin.firstCells]⟩
    · cases h
  · rename_i b
    cases hy
    split at h
    · rename_i hn; cases h
      obtain ⟨hn, rfl⟩ := hn
      refine ⟨by simp [bytesOut]; omega, bytesOut (b.data.toList.take n), VRels.self _ fun v hv => ?_, fun w' _ => ?_⟩
      · unfold bytesOut at hv
        obtain ⟨c, _, rfl⟩ := List.mem_map.1 hv
        exact .int _ _
      · simp only [Builtin.firstCells, Sem.run_pure]
        congr 1
        apply Array.ext'
        simp only [Array.toList_map, bytesOut, Lib.extract_data, List.drop_zero, Nat.sub_zero]
    · cases h
  · cases h
omit H in
theorem reps_length (z : List Value) : ∀ n, (reps z n).length = n * z.length
  | 0 => by simp [reps]
  | n + 1 => by simp only [reps, List.length_append, reps_length z n, Nat.succ_mul]; omega
omit H in
theorem reps_rel {z z' : List Value} (h : VRels φ z z') : ∀ n, VRels φ (reps z n) (reps z' n)
  | 0 => .nil
  | n + 1 => h.append (reps_rel h n)
omit H in
theorem reps_get (z : List Value) : ∀ (n i : Nat), i < n * z.length → (reps z n)[i]? = z[i % z.length]?
  | 0, i, h => by simp at h
  | n + 1, i, h => by
    simp only [reps]
    by_cases hi : i < z.length
    · rw [List.getElem?_append_left hi, Nat.mod_eq_of_lt hi]
    · rw [List.getElem?_append_right (by omega), reps_get z n (i - z.length) (by rw [Nat.succ_mul] at h; omega)]
      congr 1
      rw [← Nat.mod_eq_sub_mod (by omega)]
omit H in
theorem zero_reps (zero : Array Value) (n : Nat) : ((Array.range (n * zero.size)).map (zero[· % zero.size]!)).toList = reps zero.toList n := by
  apply List.ext_getElem?
  intro i
  by_cases hi : i < n * zero.size
  · have hz : 0 < zero.size := by
      rcases Nat.eq_zero_or_pos zero.size with h | h
      · rw [h] at hi; simp at hi
      · exact h
    have hm : i % zero.size < zero.size := Nat.mod_lt _ hz
    rw [reps_get _ _ _ (by simpa using hi)]
    simp [hi, hm]
  · rw [List.getElem?_eq_none (l := reps zero.toList n) (by rw [reps_length]; simpa using hi), List.getElem?_eq_none (by simpa using hi)]
omit H in
theorem zero_cells (zero : Array Value) (n : Nat) : (Builtin.zeroCells zero n).toList = reps zero.toList n := zero_reps zero n
omit H in
theorem growBy_le (n : Nat) : ∀ (k c : Nat), 256 ≤ c → c ≤ 2 * n → Builtin.growBy n k c ≤ 2 * n
  | 0, c, _, h => h
  | k + 1, c, h0, h => by
    unfold Builtin.growBy
    split
    · exact h
    · exact growBy_le n k _ (by omega) (by omega)
omit H in
theorem nextcap_le (n c : Nat) (h : c < n) : Builtin.nextslicecap n c ≤ 2 * n := by
  unfold Builtin.nextslicecap
  split
  · omega
  · split
    · omega
    · exact growBy_le n 4 c (by omega) (by omega)
theorem newv_run {t1 : Nat} {te : Ty} {e n : Nat} {y y' : Value} {vs : List Value} (h : newv X t1 te y s = some (n, vs)) (hte : X.ty e = some te) (hy : VRel φ y y') (hs : SRel X φ s.get w) :
    vs.length = n * te.size ∧ ∃ d vs', (underlying t1).run P w = .ok d w ∧ VRels φ vs vs' ∧
      ((∃ k, d = .int k ∧ ∃ m k', y' = .int k' m ∧ 0 ≤ m ∧ m.toNat = n ∧ roomOk n te.bytes = true ∧ vs' = reps te.zero.cells.toList n) ∨
       ((∀ k, d ≠ .int k) ∧ (∀ w', (Builtin.lenOf y').run P w' = .ok n w') ∧ ∀ w', w'.heap = w.heap → (Builtin.firstCells te.size n y').run P w' = .ok vs'.toArray w')) := by
  unfold newv at h
  have hz := (H.zero _ _ hte)
  split at h
  · cases h
  · rename_i k hu
    split at h
    · rename_i k' m
      cases hy
      split at h
      · rename_i hc
        simp only [Option.some.injEq, Prod.mk.injEq] at h
        obtain ⟨rfl, rfl⟩ := h
        refine ⟨by rw [reps_length]; simp [hz.2.1], _, _, run_ud H w hu, reps_rel (VRel.cst 2 _ hz.1).cells _, .inl ⟨k, rfl, m, k', rfl, hc.1, rfl, hc.2, rfl⟩⟩
      · cases h
    · cases h
  · rename_i d hu hne
    split at h
    · rename_i m hm
      simp only [Option.map_eq_some_iff, Prod.mk.injEq] at h
      obtain ⟨l, hl, rfl, rfl⟩ := h
      obtain ⟨h1, vs', h2, h3⟩ := firstv_run hl (fun m' hm' => by rw [hm] at hm'; cases hm'; exact Nat.le_refl _) hy hs
      refine ⟨h1, d, vs', run_ud H w hne, h2, .inr ⟨fun k hk => ?_, fun w' => ?_, fun w' hw' => ?_⟩⟩
      · exact hu k (by rw [hk])
      · unfold lenOfv at hm
        split at hm
        · cases hm; cases hy <;> rfl
        · cases hm; cases hy; rfl
        · cases hm
      · exact h3 w' hw'
    · cases h
def Src (P : Program) (te : Ty) (zero : Array Value) (n : Nat) (y' : Value) (vs' : List Value) (d : TypeDesc) (w : World) : Prop :=
  (∃ k m k', d = .int k ∧ y' = .int k' m ∧ 0 ≤ m ∧ m.toNat = n ∧ roomOk n te.bytes = true ∧ vs' = reps zero.toList n) ∨
  ((∀ k, d ≠ .int k) ∧ (∀ w', (Builtin.lenOf y').run P w' = .ok n w') ∧ ∀ w' : World, w'.heap = w.heap → (Builtin.firstCells te.size n y').run P w' = .ok vs'.toArray w')
omit H in
theorem wrap_small {m : Int} (h0 : 0 ≤ m) (h1 : m ≤ 70368744177664) : IntKind.i64.wrap m = m := IntWalk.i64_in _ (by omega)
theorem app_room {argTypes : Array TypeId} {ty0 t t1 : TypeId} {e n sLen sCap : Nat} {te : Ty} {d : TypeDesc} {base : Option Addr} {y' : Value} {vs' : List Value} (ht : argTypes[0]? = some t) (ht1 : argTypes[1]? = some t1) (hu : X.und t = some (.slice e)) (hte : X.ty e = some te)
    (hd : (underlying t1).run P w = .ok d w) (hsrc : Src P te te.zero.cells n y' vs' d w) (hr : sLen + n ≤ sCap) :
    (Builtin.append_ argTypes ty0 #[.slice base sLen sCap, y']).run P w =
      ((match base with | some a => storeCells (a.add (sLen * te.size)) vs' | none => pure () : Sem Unit).run P w).andThen fun _ w2 => .ok (.slice base (sLen + n) sCap) w2 := by
  have hz := H.zero _ _ hte
  obtain ⟨i, hi, hi1, hi2, hi3⟩ := run_inf H w hte
  rcases hsrc with ⟨k, m, k', rfl, rfl, hm0, hmn, hroom, rfl⟩ | ⟨hnk, hlen, hcells⟩
  · simp only [roomOk, Bool.and_eq_true, decide_eq_true_eq] at hroom
    have hw := wrap_small hm0 (by omega)
    have h1 : ¬ m < 0 := by omega
    have h2 : ¬ (281474976710656 < m * (i.bytes : Int)) := by
      rw [hi2]
      have : m * (te.bytes : Int) ≤ 70368744177664 := by
        have h3 : m = (n : Int) := by omega
        rw [h3, ← Int.natCast_mul]; exact Int.ofNat_le.2 hroom.1
      omega
    subst hmn
    have hr' : sLen + m.toNat ≤ sCap := hr
    have hzr := run_zero H w hte
    have hrep : m.toNat * te.size = 0 → reps te.zero.cells.toList m.toNat = [] := fun h0 => List.eq_nil_of_length_eq_zero (by rw [reps_length]; simp [hz.2.1, h0])
    have hu' := run_ud H w hu
    have hs' := run_size H w hte
    simp [Builtin.append_, ht, ht1, hu', hs', hd, asInt, asIntOf, hw, h1, h2, hi, hr', hzr]
    by_cases h0 : m.toNat * te.size = 0
    · cases base <;> simp [h0, hrep h0]
    · cases base <;> simp [h0, zero_cells]
  · have hzz : (match d with | .int _ => true | _ => false) = false := by cases d <;> first | rfl | exact absurd rfl (hnk _)
    have hc := hcells w rfl
    have hu' := run_ud H w hu
    have hs' := run_size H w hte
    simp [Builtin.append_, ht, ht1, hu', hs', hd, hlen, hr, hc]
    cases base <;> simp
theorem app_grow {argTypes : Array TypeId} {ty0 t t1 : TypeId} {e n sLen sCap : Nat} {te : Ty} {d : TypeDesc} {base : Option Addr} {y' : Value} {vs' old : List Value} (ht : argTypes[0]? = some t) (ht1 : argTypes[1]? = some t1) (hu : X.und t = some (.slice e)) (hte : X.ty e = some te)
    (hd : (underlying t1).run P w = .ok d w) (hsrc : Src P te te.zero.cells n y' vs' d w) (hr : ¬ sLen + n ≤ sCap) (hroom : roomOk (sLen + n) te.bytes = true)
    (hold : ∀ w' : World, w'.heap = w.heap → (Builtin.firstCells te.size sLen (.slice base sLen sCap)).run P w' = .ok old.toArray w') :
    ∃ c rest w1, (Builtin.append_ argTypes ty0 #[.slice base sLen sCap, y']).run P w = .ok (.slice (some ⟨w.heap.size, 0, none⟩) (sLen + n) c) w1 ∧ sLen + n ≤ c ∧
      w1.heap = w.heap.push (.cells (old ++ vs' ++ rest).toArray e) ∧ w1.os = w.os ∧ w1.tape = w.tape ∧ w1.output = w.output ∧ rest.length = (c - (sLen + n)) * te.size := by
  have hz := H.zero _ _ hte
  obtain ⟨i, hi, hi1, hi2, hi3⟩ := run_inf H w hte
  have hinf : P.info? e = some i := by
    obtain ⟨i0, h1, _⟩ := H.info _ _ hte
    simp [typeInfo, h1] at hi
    rw [h1, hi]
  have hir : ∀ w', (typeInfo e).run P w' = .ok i w' := fun w' => by simp [typeInfo, hinf]
  simp only [roomOk, Bool.and_eq_true, decide_eq_true_eq] at hroom
  have hcap : ¬ (281474976710656 < Builtin.nextslicecap (sLen + n) sCap * i.bytes) := by
    have h1 := nextcap_le (sLen + n) sCap (by omega)
    have h2 := Nat.mul_le_mul_right i.bytes h1
    rw [hi2] at *
    have h3 : 2 * (sLen + n) * te.bytes = 2 * ((sLen + n) * te.bytes) := Nat.mul_assoc _ _ _
    omega
  have hmax : ¬ ((sLen + n : Nat) : Int) > IntKind.i64.max := by simp only [IntKind.max, IntKind.signed, IntKind.bits]; simp; omega
  have hmax2 : ¬ (9223372036854775807 < (sLen : Int) + (n : Int)) := by omega
  obtain ⟨c, hcc⟩ : ∃ c, c = (Question.appendCap (sLen + n) sCap e).cut (w.tape w.drawn (.appendCap (sLen + n) sCap e)) := ⟨_, rfl⟩
  refine ⟨c, (Builtin.zeroCells te.zero.cells (c - (sLen + n))).toList, w.drew.alloc (.cells (old ++ vs' ++ (Builtin.zeroCells te.zero.cells (c - (sLen + n))).toList).toArray e), ?_, ?_, rfl, rfl, rfl, rfl, ?_⟩
  rotate_left
  · rw [hcc]; exact Nat.le_add_right _ _
  · rw [zero_cells, reps_length]; simp [hz.2.1]
  have hold' := hold w.drew rfl
  have hzr := fun w' => run_zero H w' hte
  rcases hsrc with ⟨k, m, k', rfl, rfl, hm0, hmn, hroom2, rfl⟩ | ⟨hnk, hlen, hcells⟩
  · simp only [roomOk, Bool.and_eq_true, decide_eq_true_eq] at hroom2
    have hw := wrap_small hm0 (by omega)
    have h1 : ¬ m < 0 := by omega
    have hmax3 : ¬ (9223372036854775807 < (sLen : Int) + max m 0) := by omega
    have h2 : ¬ (281474976710656 < m * (i.bytes : Int)) := by
      rw [hi2]
      have : m * (te.bytes : Int) ≤ 70368744177664 := by
        have h3 : m = (n : Int) := by omega
        rw [h3, ← Int.natCast_mul]; exact Int.ofNat_le.2 hroom2.1
      omega
    subst hmn
    have hrep : m.toNat * te.size = 0 → reps te.zero.cells.toList m.toNat = [] := fun h0 => List.eq_nil_of_length_eq_zero (by rw [reps_length]; simp [hz.2.1, h0])
    have hu' := run_ud H w hu
    have hs' := run_size H w hte
    simp [Builtin.append_, ht, ht1, hu', hs', hd, asInt, asIntOf, hw, h1, h2, hir, hr, hcap, hmax3, Question.forced, Go.newRow, ← hcc]
    simp [hold', hzr]
    have e1 : (old ++ (reps te.zero.cells.toList m.toNat ++ (Builtin.zeroCells te.zero.cells (c - (sLen + m.toNat))).toList)).toArray = old.toArray ++ ((Builtin.zeroCells te.zero.cells m.toNat) ++ Builtin.zeroCells te.zero.cells (c - (sLen + m.toNat))) := by
      apply Array.ext'; simp [zero_cells]
    have e2 : m.toNat * te.size = 0 → Builtin.zeroCells te.zero.cells m.toNat = #[] := fun h0 => by
      apply Array.ext'; rw [zero_cells, hrep h0]
    by_cases h0 : m.toNat * te.size = 0
    · rw [e2 h0] at e1
      simp [h0, e1]
    · simp [h0, e1]
  · have hzz : (match d with | .int _ => true | _ => false) = false := by cases d <;> first | rfl | exact absurd rfl (hnk _)
    have hc := hcells w.drew rfl
    have hu' := run_ud H w hu
    have hs' := run_size H w hte
    simp [Builtin.append_, ht, ht1, hu', hs', hd, hlen, hr, hir, hcap, hmax2, Question.forced, Go.newRow, ← hcc]
    simp [hold', hzr, hc]
    have e1 : (old ++ (vs' ++ (Builtin.zeroCells te.zero.cells (c - (sLen + n))).toList)).toArray = old.toArray ++ (vs'.toArray ++ Builtin.zeroCells te.zero.cells (c - (sLen + n))) := by
      apply Array.ext'; simp
    simp [e1]
end
end Go.Proofs.Yticllcglldbffaa.Ab
end
section
namespace Go.Proofs.Yticllcglldbffaa.Ab
section
variable {X : Prg} {P : Program} (H : Sound X P) {φ : Phi} {s : St} {w : World}
theorem new_row (hs : SRel X φ s.get w) {w' : World} {e : TypeId} {te : Ty} {cs cs' rest : List Value} {str : Bool} {fr : Nat × Nat} (hte : X.ty e = some te) (hf : Fresh φ s.size (s.size + 1)) (hv : VRels φ cs cs')
    (hw : w'.heap = w.heap.push (.cells (cs' ++ rest).toArray e fr)) (hfr : str = false → fr.2 = 0) (h1 : w'.os = w.os) (h2 : w'.tape = w.tape) (h3 : w'.output = w.output) :
    SRel X (φ.ext s.size 0 ⟨w.heap.size, 0, cs'.length + rest.length, te.size⟩) (s.push (.own ⟨cs, e, 0, 0, str⟩)).get w' ∧
    Step φ (φ.ext s.size 0 ⟨w.heap.size, 0, cs'.length + rest.length, te.size⟩) s (s.push (.own ⟨cs, e, 0, 0, str⟩)) w w' := by
  have hn : φ s.size 0 = none := hf _ _ (Nat.le_refl _) (by omega)
  refine new_run hs hf hw h1 h2 h3 rfl ⟨Nat.le_refl _, fun _ => ⟨rfl, (cs' ++ rest).toArray, fr, ?_, by simp, ⟨te, hte, rfl⟩, fun h => by rw [hfr h]; exact Nat.zero_le _, ?_, ?_⟩⟩
  · rw [hw]; simp
  · have := hv.length; simp; omega
  · have := hv.length
    have e1 : (cs' ++ rest).toArray.toList.take cs.length = cs' := by rw [this]; simp
    simp only [e1]
    exact hv.mono (Phi.le_ext hn)
include H
theorem append_run {argTypes : Array TypeId} {ty0 : TypeId} {x y x' y' v : Value} {s' : St} (h : appendv X argTypes x y s = some (v, s')) (hx : VRel φ x x') (hy : VRel φ y y') (hs : SRel X φ s.get w) (hf : Fresh φ s.size s'.size) :
    ∃ φ' v' w', (Builtin.append_ argTypes ty0 #[x', y']).run P w = .ok v' w' ∧ VRel φ' v v' ∧ SRel X φ' s'.get w' ∧ Step φ φ' s s' w w' := by
  unfold appendv at h
  split at h
  · rename_i t t1 ht ht1
    split at h
    · rename_i e hu
      split at h
      · rename_i te hte
        split at h
        · rename_i n vs hn
          obtain ⟨hvl, d, vs', hd, hvs, hcase⟩ := newv_run H hn hte hy hs
          have hvl' := hvs.length
          have hsrc : Src P te te.zero.cells n y' vs' d w := by
            rcases hcase with ⟨k, rfl, m, k', rfl, h1, h2, h3, h4⟩ | h1
            · exact .inl ⟨k, m, k', rfl, rfl, h1, h2, h3, h4⟩
            · exact .inr h1
          unfold appendTo at h
          split at h
          · -- nil
            rename_i len cap
            cases hx
            split at h
            · cases h
            · split at h
              · rename_i hn0
                cases h
                subst hn0
                have := app_room H (ty0 := ty0) (base := none) (sLen := 0) (sCap := 0) ht ht1 hu hte hd hsrc (Nat.le_refl _)
                exact ⟨φ, _, w, by simpa using this, .nilSlice, hs, Step.refl _ _ _⟩
              · rename_i hn0
                split at h
                · rename_i hroom
                  cases h
                  obtain ⟨c, rest, w1, g1, g2, g3, g4, g5, g6, g7⟩ := app_grow H (ty0 := ty0) (base := none) (sLen := 0) (sCap := 0) (old := []) ht ht1 hu hte hd hsrc (by omega) (by simpa using hroom) (fun w' _ => by simp [Builtin.firstCells])
                  obtain ⟨k1, k2⟩ := new_row hs hte (by simpa [St.size_push] using hf) hvs (str := false) (fr := (0, 0)) (by simpa using g3) (fun _ => rfl) g4 g5 g6
                  refine ⟨_, _, w1, g1, ?_, k1, k2⟩
                  rw [Nat.zero_add] at g2 g7 ⊢
                  refine VRel.slice ⟨s.size, 0, none⟩ _ _ _ _ _ (Phi.ext_same _ _ _ _) (.inl rfl) g2 ?_ ?_ ?_
                  · unfold capO; intro; omega
                  · unfold capO; omega
                  · intro _ _
                    simp only
                    rw [g7, ← hvl', hvl, ← Nat.add_mul]
                    exact Nat.le_of_eq (by congr 1; omega)
                · cases h
          · -- some
            rename_i a len cap
            cases hx with | slice a l len cap aa cap' hl h1 h2 h3 h4 h5 =>
            split at h
            · rename_i hn0
              cases h
              subst hn0
              have hv0 : vs' = [] := List.eq_nil_of_length_eq_zero (by omega)
              subst hv0
              have := app_room H (ty0 := ty0) (base := some aa) (sLen := len) (sCap := cap') ht ht1 hu hte hd hsrc h2
              refine ⟨φ, _, w, by simpa [storeCells] using this, .slice a l len cap aa cap' hl h1 h2 h3 h4 h5, hs, Step.refl _ _ _⟩
            · rename_i hn0
              split at h
              · -- in place
                rename_i hroom
                split at h
                · rename_i s2 hw2
                  cases h
                  have hco : aa = ⟨l.c, l.off + a.off, none⟩ := by rcases h1 with h1 | h1; exact h1; omega
                  have hr := app_room H (ty0 := ty0) (base := some aa) (sLen := len) (sCap := cap') ht ht1 hu hte hd hsrc (by omega)
                  obtain ⟨w2, g1, g2, g3⟩ := store_run (P := P) hs hw2 (l := l) hl hvs
                  refine ⟨φ, _, w2, ?_, .slice a l (len + n) cap aa cap' hl h1 (by omega) h3 h4 h5, g2, g3⟩
                  rw [hr]
                  rw [hco]
                  simp only [add_none]
                  have : l.off + a.off + len * te.size = l.off + (Addr.fwd a (len * te.size)).off := by simp only [Addr.fwd]; omega
                  rw [this, g1]
                  rfl
                · cases h
              · rename_i hnr
                split at h
                · -- exact: it moves
                  rename_i hodd
                  split at h
                  · rename_i hroom
                    split at h
                    · rename_i old hold
                      cases h
                      have hcap := h3 hodd
                      obtain ⟨hol, old', ho1, ho2⟩ := firstv_run (P := P) (size := te.size) (n := len) (y := .slice (some a) len cap) (y' := .slice (some aa) len cap') hold (fun m hm => by cases hm; exact Nat.le_refl _) (.slice a l len cap aa cap' hl h1 h2 h3 h4 h5) hs
                      obtain ⟨c, rest, w1, g1, g2, g3, g4, g5, g6, g7⟩ := app_grow H (ty0 := ty0) (base := some aa) (sLen := len) (sCap := cap') (old := old') ht ht1 hu hte hd hsrc (by omega) hroom ho2
                      obtain ⟨k1, k2⟩ := new_row hs hte (by simpa [St.size_push] using hf) (ho1.append hvs) (str := false) (fr := (0, 0)) (rest := rest) (by rw [g3]) (fun _ => rfl) g4 g5 g6
                      refine ⟨_, _, w1, g1, ?_, k1, k2⟩
                      refine VRel.slice ⟨s.size, 0, none⟩ _ _ _ _ _ (Phi.ext_same _ _ _ _) (.inl rfl) g2 ?_ ?_ ?_
                      · unfold capO; intro; omega
                      · unfold capO; omega
                      · intro _ _
                        have := ho1.length
                        simp only [List.length_append]
                        rw [g7, ← hvl', hvl, ← this, hol, ← Nat.add_mul, ← Nat.add_mul]
                        exact Nat.le_of_eq (by congr 1; omega)
                    · cases h
                  · cases h
                · -- open: it grows at its end
                  rename_i hodd
                  split at h
                  · rename_i r hb
                    split at h
                    · rename_i hc
                      obtain ⟨hroom, hep, hoff, hcl, hel, hone, hfz, hstr⟩ := hc
                      cases h
                      rw [hep] at hl
                      obtain ⟨h0, arr, fr, k1, k2, ⟨ty2, k3, k3'⟩, k4, k5, k6⟩ := (hs.obj _ _ _ hl _ hb).2 rfl
                      rw [hel, hte] at k3; cases k3
                      have hfr := k4 hstr
                      have hev : cap % 2 = 0 := by omega
                      have hN := h5 hev hoff
                      have hn : φ a.block (r.ep + 1) = none := by
                        cases h : φ a.block (r.ep + 1) with
                        | none => rfl
                        | some l' => have := (hs.obj _ _ _ h _ hb).1; omega
                      by_cases hin : len + n ≤ cap'
                      · -- there is room
                        have hco : aa = ⟨l.c, 0, none⟩ := by
                          rcases h1 with h1 | h1
                          · rw [h1, h0, hoff]
                          · omega
                        subst hco
                        have hr := app_room H (ty0 := ty0) (base := some ⟨l.c, 0, none⟩) (sLen := len) (sCap := cap') ht ht1 hu hte hd hsrc hin
                        have hbig : len * te.size + vs'.length ≤ arr.size := by
                          rw [k2, ← hvl', hvl, ← Nat.add_mul]
                          exact Nat.le_trans (Nat.mul_le_mul_right _ hin) (by rw [← k3']; exact hN)
                        have hst := run_storeCells_atF P l.c (len * te.size) r.elem fr vs' 0 arr w k1 (by omega) (by omega) (hvs.oneCell hone)
                        simp only [Nat.add_zero] at hst
                        have hsize : (List.take (len * te.size) arr.toList ++ vs' ++ List.drop (len * te.size + vs'.length) arr.toList).toArray.size = arr.size := by simp; omega
                        have hgr := grow_run (X := X) hs (l2 := l) (cs2 := r.cs ++ vs) (w' := w.setRow l.c (List.take (len * te.size) arr.toList ++ vs' ++ List.drop (len * te.size + vs'.length) arr.toList).toArray) hb hl rfl rfl rfl (by rw [setRow_size]; exact Nat.le_refl _) (by rw [setRow_size]; exact hs.lt _ _ _ hl) (.inl rfl)
                          (fun c _ hcc => setRow_other _ _ _ _ hcc) ⟨Nat.le_refl _, fun _ => ⟨h0, _, fr, setRow_heap _ _ _ _ _ _ k1, by rw [hsize]; exact k2, ⟨te, by rw [hel]; exact hte, k3'⟩, k4, by rw [hsize]; simp; omega, ?_⟩⟩
                        · refine ⟨_, _, _, by rw [hr]; simp only [add_none, Nat.zero_add]; rw [hst]; rfl, ?_, hgr.1, hgr.2⟩
                          refine VRel.slice ⟨a.block, 0, some (r.ep + 1)⟩ l _ _ _ _ (Phi.ext_same _ _ _ _) (.inl (by simp [h0])) hin ?_ ?_ (fun _ _ => hN)
                          · unfold capO; intro; omega
                          · unfold capO; omega
                        · have e1 : (List.take (len * te.size) arr.toList ++ vs' ++ List.drop (len * te.size + vs'.length) arr.toList).toArray.toList.take (r.cs ++ vs).length = arr.toList.take r.cs.length ++ vs' := by
                            simp only [List.length_append, hcl, List.take_append, List.length_take, Array.length_toList]
                            rw [Nat.min_eq_left (by omega), List.take_take, Nat.min_eq_right (by omega), hvl', Nat.add_sub_cancel_left, List.take_of_length_le (by omega : vs'.length ≤ vs'.length)]
                            simp
                          simp only [e1]
                          exact (k6.append hvs).mono (Phi.le_ext hn)
                      · -- it moves
                        obtain ⟨hol, old', ho1, ho2⟩ := firstv_run (P := P) (s := s) (size := te.size) (n := len) (vs := r.cs) (y := .slice (some a) len cap) (y' := .slice (some aa) len cap') (by
                            simp only [firstv, St.rd, hb, hep, hoff, hcl, Nat.zero_add, Nat.le_refl, and_self, if_true, List.drop_zero]
                            rw [List.take_of_length_le (by omega)]) (fun m hm => by cases hm; exact Nat.le_refl _) (.slice a l len cap aa cap' (by rw [hep]; exact hl) h1 h2 h3 h4 h5) hs
                        obtain ⟨c, rest, w1, g1, g2, g3, g4, g5, g6, g7⟩ := app_grow H (ty0 := ty0) (base := some aa) (sLen := len) (sCap := cap') (old := old') ht ht1 hu hte hd hsrc (by omega) hroom ho2
                        have hlo := ho1.length
                        have hgr := grow_run (X := X) hs (l2 := ⟨w.heap.size, 0, (old' ++ vs' ++ rest).length, te.size⟩) (cs2 := r.cs ++ vs) (w' := w1) hb hl g4 g5 g6 (by rw [g3, Array.size_push]; omega) (by rw [g3, Array.size_push]; simp only; omega) (.inr (Nat.le_refl _))
                          (fun c hcs hcc => by rw [g3, Array.getElem?_push, if_neg (by omega)]) ⟨Nat.le_refl _, fun _ => ⟨rfl, (old' ++ vs' ++ rest).toArray, (0, 0), by rw [g3, hel]; simp, by simp, ⟨te, by rw [hel]; exact hte, rfl⟩, fun _ => Nat.zero_le _, by simp; omega, ?_⟩⟩
                        · refine ⟨_, _, _, g1, ?_, hgr.1, hgr.2⟩
                          refine VRel.slice ⟨a.block, 0, some (r.ep + 1)⟩ ⟨w.heap.size, 0, (old' ++ vs' ++ rest).length, te.size⟩ _ _ _ _ (Phi.ext_same _ _ _ _) (.inl rfl) g2 ?_ ?_ ?_
                          · unfold capO; intro; omega
                          · unfold capO; omega
                          · intro _ _
                            simp only [List.length_append]
                            rw [g7, ← hvl', hvl, ← hlo, hol, ← Nat.add_mul, ← Nat.add_mul]
                            exact Nat.le_of_eq (by congr 1; omega)
                        · have e1 : (old' ++ vs' ++ rest).toArray.toList.take (r.cs ++ vs).length = old' ++ vs' := by
                            simp only [List.length_append]
                            rw [List.take_left' (by simp; omega)]
                          simp only [e1]
                          exact (ho1.append hvs).mono (Phi.le_ext hn)
                    · cases h
                  · cases h
          · cases h
        · cases h
      · cases h
    · cases h
  · cases h
theorem copy_run {argTypes : Array TypeId} {ty0 : TypeId} {x y x' y' v : Value} {s' : St} (h : copyv X argTypes x y s = some (v, s')) (hx : VRel φ x x') (hy : VRel φ y y') (hs : SRel X φ s.get w) :
    ∃ v' w', (Builtin.copy_ argTypes ty0 #[x', y']).run P w = .ok v' w' ∧ VRel φ v v' ∧ SRel X φ s'.get w' ∧ Step φ φ s s' w w' := by
  unfold copyv at h
  split at h
  · rename_i t ht
    split at h
    · rename_i e hu
      split at h
      · rename_i te base dLen cap m hte hm
        split at h
        · rename_i cs hcs
          have hlen : (Builtin.lenOf y').run P w = .ok m w := by
            unfold lenOfv at hm
            split at hm
            · cases hm; cases hy <;> rfl
            · cases hm; cases hy; rfl
            · cases hm
          obtain ⟨g1, cs', g2, g3⟩ := firstv_run (P := P) hcs (fun m' hm' => by rw [hm] at hm'; cases hm'; exact Nat.min_le_left _ _) hy hs
          have hu' := run_ud H w hu
          have hs' := run_size H w hte
          have g3' := g3 w rfl
          unfold copyTo at h
          split at h
          · split at h
            · cases h
              cases hx
              refine ⟨.int .i64 ((Nat.min m 0 : Nat) : Int), w, ?_, .int _ _, hs, Step.refl _ _ _⟩
              have g4 : (Builtin.firstCells te.size 0 y').run P w = .ok cs'.toArray w := by simpa using g3'
              simp [Builtin.copy_, ht, hu', hlen, hs', g4, goInt]
            · cases h
          · rename_i a
            cases hx with | slice a l len cap aa cap' hl h1 h2 h3 h4 h5 =>
            split at h
            · rename_i hn0
              cases h
              have : cs' = [] := List.eq_nil_of_length_eq_zero (by rw [← g2.length, g1, hn0]; simp)
              subst this
              refine ⟨_, w, ?_, .int _ _, hs, Step.refl _ _ _⟩
              simp [Builtin.copy_, ht, hu', hlen, hs', g3', goInt, storeCells]
            · rename_i hn0
              simp only [Option.map_eq_some_iff, Prod.mk.injEq] at h
              obtain ⟨s2, hw, rfl, rfl⟩ := h
              have hmin : Nat.min m dLen ≤ dLen := Nat.min_le_right m dLen
              have hco : aa = ⟨l.c, l.off + a.off, none⟩ := by
                rcases h1 with h1 | h1
                · exact h1
                · exfalso
                  have : Nat.min m dLen = 0 := by omega
                  exact hn0 this
              obtain ⟨w2, k1, k2, k3⟩ := store_run (P := P) hs hw (l := l) hl g2
              refine ⟨_, w2, ?_, .int _ _, k2, k3⟩
              subst hco
              simp [Builtin.copy_, ht, hu', hlen, hs', g3', goInt, k1]
        · cases h
      · cases h
    · cases h
  · cases h
theorem clear_run {argTypes : Array TypeId} {ty0 : TypeId} {x x' v : Value} {s' : St} (h : clearv X argTypes x s = some (v, s')) (hx : VRel φ x x') (hs : SRel X φ s.get w) :
    ∃ v' w', (Builtin.clear_ argTypes ty0 #[x']).run P w = .ok v' w' ∧ VRel φ v v' ∧ SRel X φ s'.get w' ∧ Step φ φ s s' w w' := by
  unfold clearv at h
  split at h
  · rename_i t ht
    split at h
    · rename_i ty hty
      have hu := run_und H w hty
      split at h
      · rename_i e hd
        rw [hd] at hu
        cases h; cases hx
        refine ⟨.tuple #[], w, ?_, .tuple _ _ .nil, hs, Step.refl _ _ _⟩
        simp [Builtin.clear_, ht, hu]
      · rename_i e a n cap hd
        rw [hd] at hu
        cases hx with | slice a l len cap aa cap' hl h1 h2 h3 h4 h5 =>
        split at h
        · rename_i hn0
          cases h
          subst hn0
          refine ⟨.tuple #[], w, ?_, .tuple _ _ .nil, hs, Step.refl _ _ _⟩
          simp [Builtin.clear_, ht, hu]
        · rename_i hn0
          split at h
          · rename_i te hte
            simp only [Option.map_eq_some_iff, Prod.mk.injEq] at h
            obtain ⟨s2, hw, rfl, rfl⟩ := h
            have hz := H.zero _ _ hte
            have hco : aa = ⟨l.c, l.off + a.off, none⟩ := by rcases h1 with h1 | h1; exact h1; omega
            obtain ⟨w2, k1, k2, k3⟩ := store_run (P := P) hs hw (l := l) hl (reps_rel (VRel.cst 2 _ hz.1).cells n)
            refine ⟨.tuple #[], w2, ?_, .tuple _ _ .nil, k2, k3⟩
            subst hco
            have hzr := run_zero H w hte
            rw [← zero_cells] at k1
            simp [Builtin.clear_, ht, hu, hzr, k1]
          · cases h
      · cases h
    · cases h
  · cases h
omit H in
theorem MRels.length {φ : Phi} : ∀ {l l' : List MapEntry}, MRels φ l l' → l.length = l'.length
  | _, _, .nil => rfl
  | _, _, .cons _ _ _ _ _ _ _ h => by simp [MRels.length h]
omit H in
theorem bytes_beq (a b : ByteArray) : (a == b) = (a.data.toList == b.data.toList) := by
  rw [beq_toListBytes, byteArray_toList, byteArray_toList]
omit H in
theorem find_rel {d : TypeDesc} {k k' : Value} (hk : VRel φ k k') : ∀ {es es' : List MapEntry} {i : Nat} {r : Option (Nat × Value)}, MRels φ es es' → findE d k es i = some r →
    (r = none ∧ Instr.findNow d k' es' i = some none) ∨ (∃ j v v', r = some (j, v) ∧ Instr.findNow d k' es' i = some (some (j, v')) ∧ VRel φ v v' ∧ i ≤ j ∧ ∃ e, es'[j - i]? = some e ∧ e.key = k')
  | _, _, i, r, .nil, h => by
    simp only [findE, Option.some.injEq] at h
    subst h
    exact .inl ⟨rfl, rfl⟩
  | _, _, i, r, .cons q v v' b l l' h1 h2, h => by
    have key : ∀ c, keyEq d k q = some c → Instr.sameNow d k' q = some c ∧ (c = true → q = k') := by
      intro c hc
      unfold keyEq at hc
      split at hc
      · cases hk
        split at hc
        · rename_i hkk; subst hkk; cases hc
          refine ⟨by simp [Instr.sameNow], fun hc => ?_⟩
          simp only [beq_iff_eq] at hc; rw [hc]
        · cases hc
      · cases hk
        cases hc
        refine ⟨by simp [Instr.sameNow, bytes_beq], fun hc => ?_⟩
        simp only [beq_iff_eq] at hc
        congr 1
        apply ByteArray.ext
        exact Array.toList_inj.1 hc.symm
      · cases hc
    simp only [findE] at h
    simp only [Instr.findNow]
    split at h
    · rename_i hc
      cases h
      obtain ⟨g1, g2⟩ := key true hc
      rw [g1]
      exact .inr ⟨i, v, v', rfl, rfl, h1, Nat.le_refl _, ⟨q, v', b⟩, by simp, (g2 rfl)⟩
    · rename_i hc
      obtain ⟨g1, _⟩ := key false hc
      rw [g1]
      rcases find_rel hk h2 h with h3 | ⟨j, u, u', h3, h4, h5, h6, e, h7, h8⟩
      · exact .inl h3
      · refine .inr ⟨j, u, u', h3, h4, h5, by omega, e, ?_, h8⟩
        have : j - i = (j - (i + 1)) + 1 := by omega
        rw [this]
        simpa using h7
    · cases h
omit H in
theorem checkKey_plain {t : TypeId} {d : TypeDesc} {k' : Value} (hd : (underlying t).run P w = .ok d w) (hk : keyTy d = true) (b : Bool) (n : Nat) : (Instr.checkKey b (n + 1) t k').run P w = .ok () w := by
  unfold keyTy at hk
  split at hk <;> simp [Instr.checkKey, hd] <;> cases hk
theorem lookup_run {t : Nat} {m k m' k' v : Value} {ok : Bool} (h : lookupv X t m k ok s = some v) (hm : VRel φ m m') (hk : VRel φ k k') (hs : SRel X φ s.get w) :
    ∃ v', (Instr.lookup t m' k' ok).run P w = .ok v' w ∧ VRel φ v v' := by
  unfold lookupv at h
  split at h
  · rename_i kt et hu
    split at h
    · rename_i dk te es hdk hte hes
      split at h
      · rename_i hkt
        have hu' := run_ud H w hu
        have hd := run_ud H w hdk
        have hz := run_zero H w hte
        -- the entries
        have hent : ∃ es', MRels φ es es'.toList ∧ ((m' = .map none ∧ es' = #[]) ∨ (∃ c clk, m' = .map (some c) ∧ (getObj c).run P w = .ok (.map es' clk) w)) := by
          unfold entries at hes
          split at hes
          · cases hes; cases hm; exact ⟨#[], .nil, .inl ⟨rfl, rfl⟩⟩
          · rename_i r
            split at hes
            · rename_i es0 clk hb
              cases hes
              cases hm with | map r l hl =>
              obtain ⟨_, es', g1, g2⟩ := hs.obj _ _ _ hl _ hb
              exact ⟨es', g2, .inr ⟨_, clk, rfl, by simp [getObj, Sem.run, g1]⟩⟩
            · cases hes
          · cases hes
        obtain ⟨es', he1, he2⟩ := hent
        have hck := fun b => checkKey_plain (k' := k') hd hkt b 9999
        split at h
        · rename_i j u hf
          cases h
          rcases find_rel hk he1 hf with ⟨h0, _⟩ | ⟨j', u0, u', h3, h4, h5, _⟩
          · cases h0
          · cases h3
            cases ok with
            | false => exact ⟨u', by rcases he2 with ⟨rfl, rfl⟩ | ⟨c, clk, rfl, hg⟩ <;> first | (simp [Instr.lookup, hu', hck, hd, hz, Instr.findKey, hg, h4]; done) | (simp at h4; simp [Instr.lookup, hu', hck, hd, hz, Instr.findKey, h4]; done), h5⟩
            | true => exact ⟨.tuple #[u', .bool true], by rcases he2 with ⟨rfl, rfl⟩ | ⟨c, clk, rfl, hg⟩ <;> first | (simp [Instr.lookup, hu', hck, hd, hz, Instr.findKey, hg, h4]; done) | (simp at h4; simp [Instr.lookup, hu', hck, hd, hz, Instr.findKey, h4]; done), .tuple _ _ (.cons _ _ _ _ h5 (.cons _ _ _ _ (.bool _) .nil))⟩
        · rename_i hf
          cases h
          have hzz := VRel.cst (φ := φ) 2 _ (H.zero _ _ hte).1
          rcases find_rel hk he1 hf with ⟨_, h4⟩ | ⟨j', u0, u', h3, _⟩
          · cases ok with
            | false => exact ⟨te.zero, by rcases he2 with ⟨rfl, rfl⟩ | ⟨c, clk, rfl, hg⟩ <;> first | (simp [Instr.lookup, hu', hck, hd, hz, Instr.findKey, hg, h4]; done) | (simp at h4; simp [Instr.lookup, hu', hck, hd, hz, Instr.findKey, h4]; done), hzz⟩
            | true => exact ⟨.tuple #[te.zero, .bool false], by rcases he2 with ⟨rfl, rfl⟩ | ⟨c, clk, rfl, hg⟩ <;> first | (simp [Instr.lookup, hu', hck, hd, hz, Instr.findKey, hg, h4]; done) | (simp at h4; simp [Instr.lookup, hu', hck, hd, hz, Instr.findKey, h4]; done), .tuple _ _ (.cons _ _ _ _ hzz (.cons _ _ _ _ (.bool _) .nil))⟩
          · cases h3
        · cases h
      · cases h
    · cases h
  · cases h
end
end Go.Proofs.Yticllcglldbffaa.Ab
end
section
namespace Go.Proofs.Yticllcglldbffaa.Ab
theorem MRels.append {φ : Phi} : ∀ {l l' m m' : List MapEntry}, MRels φ l l' → MRels φ m m' → MRels φ (l ++ m) (l' ++ m')
  | _, _, _, _, .nil, h => h
  | _, _, _, _, .cons k v v' b l l' h1 h2, h => .cons k v v' b _ _ h1 (h2.append h)
theorem MRels.erase {φ : Phi} : ∀ {l l' : List MapEntry} (i : Nat), MRels φ l l' → MRels φ (l.eraseIdx i) (l'.eraseIdx i)
  | _, _, _, .nil => .nil
  | _, _, 0, .cons k v v' b l l' h1 h2 => h2
  | _, _, i + 1, .cons k v v' b l l' h1 h2 => .cons k v v' b _ _ h1 (h2.erase i)
theorem MRels.modify {φ : Phi} {u u' : Value} (hu : VRel φ u u') : ∀ {l l' : List MapEntry} (i : Nat) (k' : Value), MRels φ l l' → (∀ e, l'[i]? = some e → e.key = k') → MRels φ (setVal l i u) (l'.modify i fun e => { e with key := k', val := u' })
  | _, _, i, _, .nil, _ => by simp [setVal]; exact .nil
  | _, _, 0, k', .cons k v v' b l l' h1 h2, hk => by
    have := hk _ rfl
    simp only at this
    subst this
    exact .cons _ _ _ _ _ _ hu h2
  | _, _, i + 1, k', .cons k v v' b l l' h1 h2, hk => .cons _ _ _ _ _ _ h1 (MRels.modify hu i k' h2 fun e he => hk e (by simpa using he))
section
variable {X : Prg} {P : Program} (H : Sound X P) {φ : Phi} {s : St} {w : World}
theorem sameBits_self {k : Value} (h : cstOk0 k = true) (n : Nat) : Instr.sameBits (n + 1) k k = true := by
  unfold cstOk0 at h
  split at h
  · simp [Instr.sameBits]
  · simp [Instr.sameBits, bytes_beq]
  · cases h
include H
theorem mapUpdate_run {t : Nat} {m k v m' k' v' : Value} {s' : St} (h : mapUpdatev X t m k v s = some s') (hm : VRel φ m m') (hk : VRel φ k k') (hv : VRel φ v v') (hs : SRel X φ s.get w) :
    ∃ w', (Instr.mapUpdate t m' k' v').run P w = .ok () w' ∧ SRel X φ s'.get w' ∧ Step φ φ s s' w w' := by
  unfold mapUpdatev at h
  split at h
  · rename_i kt et r hu
    split at h
    · rename_i dk es clk hdk hb
      split at h
      · rename_i hc
        obtain ⟨hkt, hcst⟩ := hc
        cases hm with | map r l hl =>
        obtain ⟨_, es', g1, g2⟩ := hs.obj _ _ _ hl _ hb
        have hu' := run_ud H w hu
        have hd := run_ud H w hdk
        have hgo : (getObj l.c).run P w = .ok (.map es' clk) w := by simp [getObj, Sem.run, g1]
        have hck := checkKey_plain (k' := k') hd hkt false 9999
        have hso : ∀ o', (setObj l.c o').run P w = .ok () { w with heap := w.heap.setIfInBounds l.c o' } := fun o' => by simp [setObj, Sem.run, g1]
        have hkk : k' = k := by
          unfold cstOk0 at hcst
          split at hcst
          · cases hk; rfl
          · cases hk; rfl
          · cases hcst
        have hne : ∀ e l', φ r e = some l' → e = 0 := fun e l' he => (hs.obj _ _ _ he _ hb).1
        have hlt := hs.lt _ _ _ hl
        split at h
        · rename_i j u hf
          cases h
          rcases find_rel hk g2 hf with ⟨h0, _⟩ | ⟨j', u0, u', h3, h4, h5, _, e, h7, h8⟩
          · cases h0
          · cases h3
            simp only [Nat.sub_zero] at h7
            have hkts : (Instr.keyThatStays (((es'[j]?).map (·.key)).getD k') k').run P w = .ok k' w := by
              have : es'[j]? = some e := by simpa using h7
              rw [this]
              simp only [Option.map_some, Option.getD_some, h8]
              have hsb : Instr.sameBits 10000 k' k' = true := by rw [hkk]; exact sameBits_self hcst 9999
              simp [Instr.keyThatStays, hsb]
            obtain ⟨q1, q2⟩ := upd_obj (X := X) hs (o' := .map (es'.modify j fun e => { e with key := k', val := v' }) clk) (o1 := .map (setVal es j v) clk) hb hl rfl rfl hne
              ⟨rfl, es'.modify j fun e => { e with key := k', val := v' }, by simp [hlt], by
                rw [Array.toList_modify]
                exact g2.modify hv j k' (fun e' he' => by
                  have h9 : es'.toList[j]? = some e := h7
                  rw [h9] at he'; cases he'; exact h8)⟩
            refine ⟨_, ?_, q1, q2⟩
            simp [Instr.mapUpdate, hu', hgo, hck, Instr.findKey, hd, h4, hkts, hso]
        · rename_i hf
          cases h
          rcases find_rel hk g2 hf with ⟨_, h4⟩ | ⟨j', u0, u', h3, _⟩
          · obtain ⟨q1, q2⟩ := upd_obj (X := X) hs (o' := .map (es'.push { key := k', val := v', born := clk }) (clk + 1)) (o1 := .map (es ++ [{ key := k, val := v, born := clk }]) (clk + 1)) hb hl rfl rfl hne
              ⟨rfl, es'.push { key := k', val := v', born := clk }, by simp [hlt], by
                rw [Array.toList_push, hkk]
                exact g2.append (.cons _ _ _ _ _ _ hv .nil)⟩
            refine ⟨_, ?_, q1, q2⟩
            simp [Instr.mapUpdate, hu', hgo, hck, Instr.findKey, hd, h4, hso]
          · cases h3
        · cases h
      · cases h
    · cases h
  · cases h
theorem delete_run {t : Nat} {m k m' k' : Value} {argTypes : Array TypeId} {ty0 : TypeId} {s' : St} (ht : argTypes[0]? = some t) (h : deletev X t m k s = some s') (hm : VRel φ m m') (hk : VRel φ k k') (hs : SRel X φ s.get w) :
    ∃ w', (Builtin.delete_ argTypes ty0 #[m', k']).run P w = .ok (.tuple #[]) w' ∧ SRel X φ s'.get w' ∧ Step φ φ s s' w w' := by
  unfold deletev at h
  split at h
  · rename_i kt et r hu
    split at h
    · rename_i dk es clk hdk hb
      split at h
      · rename_i hkt
        cases hm with | map r l hl =>
        obtain ⟨_, es', g1, g2⟩ := hs.obj _ _ _ hl _ hb
        have hu' := run_ud H w hu
        have hd := run_ud H w hdk
        have hgo : (getObj l.c).run P w = .ok (.map es' clk) w := by simp [getObj, Sem.run, g1]
        have hck := fun b => checkKey_plain (k' := k') hd hkt b 9999
        have hso : ∀ o', (setObj l.c o').run P w = .ok () { w with heap := w.heap.setIfInBounds l.c o' } := fun o' => by simp [setObj, Sem.run, g1]
        have hne : ∀ e l', φ r e = some l' → e = 0 := fun e l' he => (hs.obj _ _ _ he _ hb).1
        have hlt := hs.lt _ _ _ hl
        split at h
        · rename_i j u hf
          cases h
          rcases find_rel hk g2 hf with ⟨h0, _⟩ | ⟨j', u0, u', h3, h4, h5, _, e, h7, h8⟩
          · cases h0
          · cases h3
            obtain ⟨q1, q2⟩ := upd_obj (X := X) hs (o' := .map (es'.eraseIdxIfInBounds j) clk) (o1 := .map (es.eraseIdx j) clk) hb hl rfl rfl hne
              ⟨rfl, es'.eraseIdxIfInBounds j, by simp [hlt], by
                rw [Array.toList_eraseIdxIfInBounds]
                exact g2.erase j⟩
            refine ⟨_, ?_, q1, q2⟩
            simp [Builtin.delete_, ht, hu', hgo, hck, Instr.findKey, hd, h4, hso]
        · rename_i hf
          cases h
          rcases find_rel hk g2 hf with ⟨_, h4⟩ | ⟨j', u0, u', h3, _⟩
          · obtain ⟨q1, q2⟩ := upd_obj (X := X) hs (o' := .map es' clk) (o1 := .map es clk) hb hl rfl rfl hne ⟨rfl, es', by simp [hlt], g2⟩
            refine ⟨_, ?_, q1, q2⟩
            simp [Builtin.delete_, ht, hu', hgo, hck, Instr.findKey, hd, h4, hso]
          · cases h3
        · cases h
      · cases h
    · cases h
  · cases h
omit H in
theorem bytesIn_run : ∀ {cs : List Value} {l : List UInt8}, bytesIn cs = some l → ∃ xs : List Int, cs = xs.map (Value.int .u8) ∧ l = xs.map fun n => UInt8.ofNat n.toNat := by
  intro cs
  induction cs with
  | nil => intro l h; simp only [bytesIn, Option.some.injEq] at h; subst h; exact ⟨[], rfl, rfl⟩
  | cons v r ih =>
    intro l h
    unfold bytesIn at h
    split at h
    · cases ‹_ :: _ = []›
    · rename_i n r' heq
      cases heq
      simp only [Option.map_eq_some_iff] at h
      obtain ⟨l2, h3, rfl⟩ := h
      obtain ⟨xs, rfl, rfl⟩ := ih h3
      exact ⟨n :: xs, rfl, rfl⟩
    · cases h
omit H in
theorem ints_same : ∀ {xs : List Int} {cs' : List Value}, VRels φ (xs.map (Value.int .u8)) cs' → cs' = xs.map (Value.int .u8)
  | [], _, .nil => rfl
  | x :: xs, _, .cons _ _ _ _ h1 h2 => by
    cases h1
    rw [ints_same h2]
    rfl
omit H in
theorem bytesWorld_heap (w : World) (e : TypeId) (b : ByteArray) : (Lib.bytesWorld w e b).heap = w.heap.push (.cells (Lib.bytesCells w e b) e ((Lib.bytesCells w e b).size, (Lib.bytesCells w e b).size + 1)) := by
  apply Array.ext_getElem?
  intro j
  rw [Array.getElem?_push]
  split
  · rename_i h; subst h; exact Lib.bytesWorld_at_new w e b
  · rename_i h
    by_cases hj : j < w.heap.size
    · exact Lib.bytesWorld_at_old w e b j hj
    · rw [Array.getElem?_eq_none (by rw [Lib.bytesWorld_size]; omega), Array.getElem?_eq_none (by omega)]
omit H in
theorem shape_own (hs : SRel X φ s.get w) {b : Nat} {r : Row} {l : Loc} (hb : s.get b = some (.own r)) (hl : φ b r.ep = some l) :
    ∃ n, w.shape? l.c = some (r.elem, n) ∧ r.cs.length ≤ n ∧ l.off = 0 := by
  obtain ⟨h0, arr, fr, h1, h2, h3, h4, h5, h6⟩ := (hs.obj _ _ _ hl _ hb).2 rfl
  exact ⟨arr.size, by simp [World.shape?, h1], h5, h0⟩
omit H in
theorem liesAt_self {e count : Nat} (hc : P.cellsOf e ≠ 0) (hn : 1 ≤ count) : liesAt P P.depth e count 0 e 1 = true := by
  have hd : P.depth = (2 * (P.types.size + Made.depth) + 1) + 1 := rfl
  rw [hd]
  simp only [liesAt, Bool.or_eq_true]
  left
  rw [hd]
  simp [rowAt, hc, hn, sameLayout]
omit H in
theorem freeze_own (hs : SRel X φ s.get w) {b : Nat} {r : Row} {l : Loc} {n : Nat} (hn : n ≠ 0) (hb : s.get b = some (.own r)) (hl : φ b r.ep = some l) :
    SRel X φ (s.set b (.own { r with frz := max r.frz n })).get (w.freeze ⟨l.c, 0, none⟩ n) ∧ Step φ φ s (s.set b (.own { r with frz := max r.frz n })) w (w.freeze ⟨l.c, 0, none⟩ n) := by
  have hm : isMut (s.get b) = true := by rw [hb]; rfl
  obtain ⟨h0, arr, fr, h1, h2, h3, h4, h5, h6⟩ := (hs.obj _ _ _ hl _ hb).2 rfl
  have hoth : ∀ c, c ≠ l.c → (w.freeze ⟨l.c, 0, none⟩ n).heap[c]? = w.heap[c]? := fun c hc => by
    unfold World.freeze
    rw [if_neg hn]
    simp only [Array.getElem?_modify]
    rw [if_neg (fun h => hc h.symm)]
  have hsize : (w.freeze ⟨l.c, 0, none⟩ n).heap.size = w.heap.size := by
    unfold World.freeze
    rw [if_neg hn]
    simp
  have hat : ∃ fr', (w.freeze ⟨l.c, 0, none⟩ n).heap[l.c]? = some (.cells arr r.elem fr') ∧ (r.str = false → fr'.2 ≤ max r.frz n) := by
    obtain ⟨lo, hi⟩ := fr
    refine ⟨if lo == hi then (0, 0 + n) else (min lo 0, max hi (0 + n)), ?_, fun hstr => ?_⟩
    · unfold World.freeze
      rw [if_neg hn]
      simp only [Array.getElem?_modify, if_true, h1]
      rfl
    · have := h4 hstr
      simp only at this
      split <;> simp <;> omega
  obtain ⟨fr', hat1, hat2⟩ := hat
  constructor
  · refine ⟨fun b' e' l' hb' o ho => ?_, fun b' e' l' hb' => ?_, fun b1 e1 l1 b2 e2 l2 k1 k2 hne hmu => ?_⟩
    · rw [St.get_set hb] at ho
      split at ho
      · rename_i heq; subst heq
        cases ho
        refine ⟨(hs.obj _ _ _ hb' _ hb).1, fun he => ?_⟩
        simp only at he
        subst he
        rw [hl] at hb'; cases hb'
        exact ⟨h0, arr, fr', hat1, h2, h3, hat2, h5, h6⟩
      · rename_i hne
        exact (hs.obj _ _ _ hb' _ ho).world (fun _ _ _ h => h) (hoth _ (fun h => (hs.sep _ _ _ _ _ _ hl hb' hne hm) h.symm))
    · rw [hsize]; exact hs.lt _ _ _ hb'
    · refine hs.sep _ _ _ _ _ _ k1 k2 hne ?_
      rw [St.get_set hb] at hmu
      split at hmu
      · rename_i heq; subst heq; exact hm
      · exact hmu
  · have hrest : (w.freeze ⟨l.c, 0, none⟩ n).os = w.os ∧ (w.freeze ⟨l.c, 0, none⟩ n).tape = w.tape ∧ (w.freeze ⟨l.c, 0, none⟩ n).output = w.output := by
      unfold World.freeze
      rw [if_neg hn]
      exact ⟨rfl, rfl, rfl⟩
    refine ⟨Nat.le_refl _, fun _ _ _ h => h, fun _ _ _ h => .inl h, fun b' _ => ?_, hrest.1, hrest.2.1, hrest.2.2, by rw [hsize]; exact Nat.le_refl _, fun c _ hc => ?_⟩
    · rw [St.get_set hb]
      split
      · rename_i heq; subst heq; rw [hm]; rfl
      · rfl
    · refine hoth _ fun h => ?_
      have := hc b r.ep l hl h.symm
      rw [hm] at this; cases this
theorem cellsOf_eq {t : Nat} {ty : Ty} (h : X.ty t = some ty) : P.cellsOf t = ty.size := by
  obtain ⟨i, h1, h2, _⟩ := H.info _ _ h
  simp [Program.cellsOf, h1, h2]
theorem convert_run {a b : Nat} {x x' v : Value} {s' : St} (h : convertv X a b x s = some (v, s')) (hx : VRel φ x x') (hs : SRel X φ s.get w) (hf : Fresh φ s.size s'.size) :
    ∃ φ' v' w', (convert a b x').run P w = .ok v' w' ∧ VRel φ' v v' ∧ SRel X φ' s'.get w' ∧ Step φ φ' s s' w w' := by
  unfold convertv at h
  split at h
  · rename_i ts td hta htb
    have hua := H.und _ _ hta
    have hub := H.und _ _ htb
    split at h
    · rename_i k1 k k2 n e1 e2
      cases h; cases hx
      rw [e1] at hua; rw [e2] at hub
      exact ⟨φ, _, w, by simp [convert, run_underlying hua, run_underlying hub, Conv.intToInt], .int _ _, hs, Step.refl _ _ _⟩
    · rename_i k1 k2 n e1 e2
      cases h; cases hx
      rw [e1] at hua; rw [e2] at hub
      exact ⟨φ, _, w, by simp [convert, run_underlying hua, run_underlying hub, Conv.intToString], .string _, hs, Step.refl _ _ _⟩
    · rename_i c e1 e2
      cases h; cases hx
      rw [e1] at hua; rw [e2] at hub
      exact ⟨φ, _, w, by simp [convert, run_underlying hua, run_underlying hub], .string _, hs, Step.refl _ _ _⟩
    · rename_i e c e1 e2
      cases hx
      rw [e1] at hua; rw [e2] at hub
      split at h
      · rename_i hu8
        cases h
        obtain ⟨te, hte, hte2⟩ : ∃ te, X.ty e = some te ∧ te.und = .int .u8 := by
          unfold Prg.und at hu8
          split at hu8
          · rename_i te hte; simp only [Option.some.injEq] at hu8; exact ⟨te, hte, hu8⟩
          · cases hu8
        have hue := H.und _ _ hte
        rw [hte2] at hue
        have hr := Lib.run_convert_string_bytes (P := P) w a b e c hua hub hue
        have hv : VRels φ (bytesOut c.data.toList) (bytesOut c.data.toList) := VRels.self _ fun u hu => by
          unfold bytesOut at hu
          obtain ⟨q, _, rfl⟩ := List.mem_map.1 hu
          exact .int _ _
        have hsz : te.size = 1 := (H.zero _ _ hte).2.2 (by unfold Ty.agg; rw [hte2])
        obtain ⟨k1, k2⟩ := new_row (str := true) hs hte (by simpa [St.size_push] using hf) hv (rest := List.replicate (grownCap w c.size 0 e - c.size) (.int .u8 0)) (w' := Lib.bytesWorld w e c)
          (by rw [bytesWorld_heap]; congr 2; apply Array.ext'; simp [Lib.bytesCells, bytesOut]) (fun h => by cases h) rfl rfl rfl
        refine ⟨_, _, _, hr, ?_, k1, k2⟩
        have hg : c.size ≤ grownCap w c.size 0 e := by unfold grownCap; exact Nat.le_add_right _ _
        refine VRel.slice ⟨s.size, 0, none⟩ _ _ _ _ _ (Phi.ext_same _ _ _ _) (.inl rfl) hg ?_ ?_ ?_
        · unfold capO; intro; omega
        · unfold capO; omega
        · intro _ _
          simp only [List.length_replicate, bytesOut, List.length_map, Array.length_toList, hsz]
          have : c.data.size = c.size := rfl
          omega
      · cases h
    · rename_i e l c e1 e2
      cases hx
      rw [e1] at hua; rw [e2] at hub
      split at h
      · rename_i hu8
        cases h
        have hue : P.underlying e = some (.int .u8) := by
          unfold Prg.und at hu8
          split at hu8
          · rename_i te hte; simp only [Option.some.injEq] at hu8; rw [← hu8]; exact H.und _ _ hte
          · cases hu8
        exact ⟨φ, _, w, run_convert_bytes_nil (P := P) w a e hua hue 0 0 b hub, .string _, hs, Step.refl _ _ _⟩
      · cases h
    · rename_i e ad len cap e1 e2
      cases hx with | slice ad l len cap aa cap' hl h1 h2 h3 h4 h5 =>
      rw [e1] at hua; rw [e2] at hub
      split at h
      · rename_i hu8
        have hue : P.underlying e = some (.int .u8) := by
          unfold Prg.und at hu8
          split at hu8
          · rename_i te hte; simp only [Option.some.injEq] at hu8; rw [← hu8]; exact H.und _ _ hte
          · cases hu8
        split at h
        · rename_i cs hcs
          simp only [Option.map_eq_some_iff, Prod.mk.injEq] at h
          obtain ⟨bs, hbs, rfl, rfl⟩ := h
          obtain ⟨xs, rfl, rfl⟩ := bytesIn_run hbs
          obtain ⟨g1, cs', g2, g3⟩ := rd_rel hs hcs hl
          have := ints_same g2
          subst this
          simp only [List.length_map] at g1
          have hr : (convert a b (.slice (some aa) len cap')).run P w = .ok (.string (strOfNums xs)) w := by
            by_cases hc : cap' = 0
            · obtain rfl : len = 0 := by omega
              have hx : xs = [] := List.eq_nil_of_length_eq_zero g1
              subst hx
              have hl0 : (loadCells aa 0).run P w = .ok (([] : List Int).map (Value.int .u8)).toArray w := by simp [loadCells, loadCellsFrom]
              rw [run_convert_bytes_string w a b e _ 0 cap' hua hue hub, run_bytesToString w _ 0 cap' [] hl0]
              rfl
            · have hco : aa = ⟨l.c, l.off + ad.off, none⟩ := by rcases h1 with h1 | h1; exact h1; exact absurd h1 hc
              subst hco
              exact run_convert_bytes_arg (P := P) w a e hua hue l.c (l.off + ad.off) len cap' xs g1 (fun i hi => by
                refine g3 i _ ?_
                simp [List.getElem?_eq_getElem (show i < xs.length by omega), List.getD_eq_getElem?_getD]) b hub
          exact ⟨φ, _, w, hr, .string _, hs, Step.refl _ _ _⟩
        · cases h
      · cases h
    · rename_i t ad e1 e2
      cases hx with | ptr ad l hl =>
      rw [e1] at hua; rw [e2] at hub
      split at h
      · rename_i tt r htt hb
        split at h
        · rename_i hc
          cases h
          obtain ⟨c1, c2, c3⟩ := hc
          obtain ⟨i, k1, k2, _⟩ := H.info _ _ htt
          obtain ⟨n, n1, n2, n3⟩ := shape_own hs hb (c2 ▸ hl)
          refine ⟨φ, _, w, Lib.run_to_unsafe (w := w) (⟨l.c, l.off + ad.off, none⟩ : Addr) hua hub k1 (by rw [k2]; exact c1) n1 (by show l.off + ad.off < n; omega), .ptr ad l hl, hs, Step.refl _ _ _⟩
        · cases h
      · cases h
    · rename_i u ad e1 e2
      cases hx with | ptr ad l hl =>
      rw [e1] at hua; rw [e2] at hub
      split at h
      · rename_i tu r htu hb
        split at h
        · rename_i hc
          cases h
          obtain ⟨c1, c2, c3, c4, c5⟩ := hc
          obtain ⟨i, k1, k2, _⟩ := H.info _ _ htu
          obtain ⟨n, n1, n2, n3⟩ := shape_own hs hb (c2 ▸ hl)
          subst c4
          have hce := cellsOf_eq H htu
          refine ⟨φ, _, w, Lib.run_from_unsafe (w := w) (⟨l.c, l.off + ad.off, none⟩ : Addr) hua hub k1 n1 (by
            show liesAt P P.depth r.elem (n / P.cellsOf r.elem) (l.off + ad.off) r.elem 1 = true
            rw [n3, c3]
            exact liesAt_self (by rw [hce]; exact c1) (by rw [hce]; exact (Nat.le_div_iff_mul_le (Nat.pos_of_ne_zero c1)).2 (by omega))), .ptr ad l hl, hs, Step.refl _ _ _⟩
        · cases h
      · cases h
    · cases h
  · cases h
omit H in
theorem bytesX_get : ∀ {cs : List Value} {l : List UInt8}, bytesX cs = some l → l.length = cs.length ∧ ∀ (j : Nat) (x : UInt8), l[j]? = some x → cs[j]? = some (Value.int IntKind.u8 (x.toNat : Int))
  | [], l, h => by cases h; exact ⟨rfl, fun j x hx => by simp at hx⟩
  | v :: cs, l, h => by
    unfold bytesX at h
    split at h
    · rename_i heq; cases heq
    · rename_i n r heq
      cases heq
      split at h
      · rename_i hn
        simp only [Option.map_eq_some_iff] at h
        obtain ⟨l0, h0, rfl⟩ := h
        obtain ⟨k1, k2⟩ := bytesX_get h0
        refine ⟨by simp [k1], fun j x hx => ?_⟩
        cases j with
        | zero =>
          simp only [List.getElem?_cons_zero, Option.some.injEq] at hx ⊢
          subst hx
          rw [UInt8.toNat_ofNat_of_lt' (by simp [UInt8.size]; omega)]
          congr 1; omega
        | succ j => simpa using k2 j x (by simpa using hx)
      · cases h
    · cases h
theorem unsafeStr_run {argTypes : Array TypeId} {ty0 : TypeId} {p : Option Addr} {n : Int} {x' v : Value} {s' : St} (h : unsafeStr X argTypes p n s = some (v, s')) (hx : VRel φ (.pointer p) x') (hs : SRel X φ s.get w) :
    ∃ w', (Builtin.unsafeString_ argTypes ty0 #[x', .int .i64 n]).run P w = .ok v w' ∧ VRel φ v v ∧ SRel X φ s'.get w' ∧ Step φ φ s s' w w' := by
  unfold unsafeStr at h
  split at h
  · rename_i pt it hat
    obtain rfl : argTypes = #[pt, it] := Array.ext' hat
    split at h
    · rename_i hn; subst hn; cases h
      cases hx with
      | nilPtr => exact ⟨w, Lib.run_unsafeString_none w pt it ty0 _, .string _, hs, Step.refl _ _ _⟩
      | ptr a l hl => exact ⟨w, Lib.run_unsafeString_none w pt it ty0 _, .string _, hs, Step.refl _ _ _⟩
    · rename_i hn
      split at h
      · rename_i ad
        cases hx with | ptr ad l hl =>
        split at h
        · rename_i e r hu hb
          split at h
          · rename_i te hte
            split at h
            · rename_i hc
              obtain ⟨c1, c2, c3, c4, c5, c6, c7⟩ := hc
              split at h
              · rename_i bs hbs
                cases h
                obtain ⟨k1, k2⟩ := bytesX_get hbs
                rw [List.length_take] at k1
                have hl' := c2 ▸ hl
                obtain ⟨h0, arr, fr, h1, h2, h3, h4, h5, h6⟩ := (hs.obj _ _ _ hl' _ hb).2 rfl
                have hpu : P.underlying pt = some (.pointer e) := by
                  unfold Prg.und at hu
                  split at hu
                  · rename_i ty ht; simp only [Option.some.injEq] at hu; rw [← hu]; exact H.und _ _ ht
                  · cases hu
                have hlen : bs.length = n.toNat := by omega
                have hr := Lib.run_unsafeString_row (P := P) w pt it ty0 e hpu ((cellsOf_eq H hte).trans c1) l.c arr.size (by simp [World.shape?, h1, c4]) bs (by intro hnil; rw [hnil] at hlen; simp at hlen; omega) (by omega)
                  (by unfold roomOk at c7; simp at c7; omega) (fun j x hj => by
                    have hg := k2 j x hj
                    rw [List.getElem?_take] at hg
                    split at hg
                    · obtain ⟨v', g1, g2⟩ := h6.get j _ hg
                      cases g2
                      rw [List.getElem?_take] at g1
                      split at g1
                      · rw [add_none]
                        simp only [World.cell?, h1, Nat.zero_add]
                        simpa using g1
                      · cases g1
                    · cases hg)
                obtain ⟨q1, q2⟩ := freeze_own hs (n := n.toNat) (by omega) hb hl'
                have en : n = (bs.length : Int) := by omega
                refine ⟨_, ?_, .string _, q1, q2⟩
                rw [h0, c3]
                rw [hlen] at hr
                have e2 : ((n.toNat : Nat) : Int) = n := by omega
                rw [e2] at hr
                exact hr
              · cases h
            · cases h
          · cases h
        · cases h
      · cases h
  · cases h
theorem len_run {t : Nat} {x x' : Value} {n : Int} {argTypes : Array TypeId} {ty0 : TypeId} (ht : argTypes[0]? = some t) (h : lenv X t x s = some n) (hx : VRel φ x x') (hs : SRel X φ s.get w) :
    (Builtin.len_ argTypes ty0 #[x']).run P w = .ok (.int .i64 n) w := by
  unfold lenv at h
  split at h
  · cases h
  · rename_i ty hty
    have hu := run_und H w hty
    split at h
    · rename_i b e; rw [e] at hu; cases h; cases hx
      simp [Builtin.len_, ht, hu, goInt]
    · rename_i k a m c e; rw [e] at hu; cases h
      obtain ⟨b, c', rfl⟩ := len_slice hx
      simp [Builtin.len_, ht, hu, goInt]
    · rename_i m k e; rw [e] at hu; cases h
      cases hx <;> simp [Builtin.len_, ht, hu, goInt]
    · rename_i arr e; rw [e] at hu
      split at h
      · rename_i m k hd; cases h
        have := run_ud H w hd
        cases hx <;> simp [Builtin.len_, ht, hu, goInt, this]
      · cases h
    · rename_i k1 k2 e; rw [e] at hu; cases h; cases hx
      simp [Builtin.len_, ht, hu, goInt]
    · rename_i k1 k2 r e; rw [e] at hu
      split at h
      · rename_i es clk hb; cases h
        cases hx with | map r l hl =>
        obtain ⟨_, es', g1, g2⟩ := hs.obj _ _ _ hl _ hb
        have hgo : (getObj l.c).run P w = .ok (.map es' clk) w := by simp [getObj, Sem.run, g1]
        have := g2.length
        simp only [Array.length_toList] at this
        simp [Builtin.len_, ht, hu, goInt, hgo, this]
      · cases h
    · cases h
end
end Go.Proofs.Yticllcglldbffaa.Ab
end
section
namespace Go.Proofs.Yticllcglldbffaa.Ab
def Done (X : Prg) (φ : Phi) (s : St) (w : World) (v : Value) (s' : St) (r : Result Next) : Prop :=
  ∃ φ' v' n w', r = .ok n w' ∧ (n = .value v' ∨ (n = .skip ∧ v' = undef)) ∧ VRel φ' v v' ∧ SRel X φ' s'.get w' ∧ Step φ φ' s s' w w'
theorem VRel.inv_bool {φ : Phi} {b : Bool} {v' : Value} (h : VRel φ (.bool b) v') : v' = .bool b := by cases h; rfl
theorem VRel.inv_int {φ : Phi} {k : IntKind} {n : Int} {v' : Value} (h : VRel φ (.int k n) v') : v' = .int k n := by cases h; rfl
theorem VRel.inv_string {φ : Phi} {b : ByteArray} {v' : Value} (h : VRel φ (.string b) v') : v' = .string b := by cases h; rfl
theorem VRel.inv_nilSlice {φ : Phi} {v' : Value} (h : VRel φ (.slice none 0 0) v') : v' = .slice none 0 0 := by cases h; rfl
section
variable {X : Prg} {P : Program} (H : Sound X P) {φ : Phi} {s : St} {w : World}
theorem Done.quiet {v v' : Value} {r : Result Next} (hs : SRel X φ s.get w) (hr : r = .ok (.value v') w) (hv : VRel φ v v') : Done X φ s w v s r :=
  ⟨φ, v', _, w, hr, .inl rfl, hv, hs, Step.refl _ _ _⟩
theorem Done.unit {s' : St} {w' : World} {r : Result Next} (hr : r = .ok .skip w') (hs : SRel X φ s'.get w') (hst : Step φ φ s s' w w') : Done X φ s w undef s' r :=
  ⟨φ, undef, _, w', hr, .inr ⟨rfl, rfl⟩, .tuple _ _ .nil, hs, hst⟩
include H
theorem alloc_run {t : Nat} {ty : Ty} (hty : X.ty t = some ty) (hs : SRel X φ s.get w) (hf : Fresh φ s.size (s.size + 1)) :
    ∃ φ' v' w', (Instr.alloc t true (.tuple #[])).run P w = .ok v' w' ∧ VRel φ' (ptr s.size 0) v' ∧ SRel X φ' (s.push (.own ⟨ty.zero.cells.toList, t, 0, 0, false⟩)).get w' ∧ Step φ φ' s (s.push (.own ⟨ty.zero.cells.toList, t, 0, 0, false⟩)) w w' := by
  have hz := H.zero _ _ hty
  obtain ⟨k1, k2⟩ := new_row (str := false) (fr := (0, 0)) hs hty hf (VRel.cst 2 _ hz.1).cells (rest := []) (w' := w.alloc (.cells ty.zero.cells t)) (by simp [World.alloc, -World.alloc_eq]) (fun _ => rfl) rfl rfl rfl
  refine ⟨_, _, _, ?_, VRel.ptr ⟨s.size, 0, none⟩ _ (Phi.ext_same _ _ _ _), k1, k2⟩
  simp [Instr.alloc, run_zero H w hty, newVar, Go.newRow]
omit H in
theorem box_run {t : Nat} {ty : Ty} {v v' : Value} (hty : X.ty t = some ty) (hv : VRel φ v v') (hs : SRel X φ s.get w) (hf : Fresh φ s.size (s.size + 1)) :
    ∃ φ' u' w', (Instr.box t v').run P w = .ok u' w' ∧ VRel φ' (ptr s.size 0) u' ∧ SRel X φ' (s.push (.own ⟨v.cells.toList, t, 0, 0, false⟩)).get w' ∧ Step φ φ' s (s.push (.own ⟨v.cells.toList, t, 0, 0, false⟩)) w w' := by
  obtain ⟨k1, k2⟩ := new_row (str := false) (fr := (0, 0)) hs hty hf hv.cells (rest := []) (w' := w.alloc (.cells v'.cells t)) (by simp [World.alloc, -World.alloc_eq]) (fun _ => rfl) rfl rfl rfl
  refine ⟨_, _, _, ?_, VRel.ptr ⟨s.size, 0, none⟩ _ (Phi.ext_same _ _ _ _), k1, k2⟩
  simp [Instr.box, newVar, Go.newRow]
theorem buildSlice_run {t e n : Nat} {te : Ty} {ps : List (Nat × Value)} {ps' : Array (Nat × Value)} {cs : Array Value} (hu : X.und t = some (.slice e)) (hte : X.ty e = some te) (hsm : n * te.size ≤ 65536)
    (h : Instr.fill (fun i => some (i * te.size, te.size)) (reps te.zero.cells.toList n).toArray ps = some cs) (hn : ps.map (·.1) = ps'.toList.map (·.1)) (hv : VRels φ (ps.map (·.2)) (ps'.toList.map (·.2)))
    (hs : SRel X φ s.get w) (hf : Fresh φ s.size (s.size + 1)) :
    ∃ φ' u' w', (Instr.buildSlice t n ps').run P w = .ok u' w' ∧ VRel φ' (.slice (some ⟨s.size, 0, none⟩) n (capX n)) u' ∧ SRel X φ' (s.push (.own ⟨cs.toList, e, 0, 0, false⟩)).get w' ∧ Step φ φ' s (s.push (.own ⟨cs.toList, e, 0, 0, false⟩)) w w' := by
  have hz := H.zero _ _ hte
  have hzv : VRels φ (reps te.zero.cells.toList n) (reps te.zero.cells.toList n) := reps_rel (VRel.cst 2 _ hz.1).cells n
  obtain ⟨cs', h1, h2⟩ := fill_rel (φ := φ) ps ps'.toList (reps te.zero.cells.toList n).toArray (reps te.zero.cells.toList n).toArray cs hn hv (by simpa using hzv) h
  obtain ⟨k1, k2⟩ := new_row (str := false) (fr := (0, 0)) hs hte hf h2 (rest := []) (w' := w.alloc (.cells cs' e)) (by simp [World.alloc, -World.alloc_eq]) (fun _ => rfl) rfl rfl rfl
  refine ⟨_, _, _, ?_, VRel.slice ⟨s.size, 0, none⟩ _ _ _ _ n (Phi.ext_same _ _ _ _) (.inl rfl) (Nat.le_refl _) ?_ ?_ ?_, k1, k2⟩
  · have hu' := run_ud H w hu
    have hs' := run_size H w hte
    have hzr := run_zero H w hte
    have hr0 : ∀ (f : Nat → Value), Array.map f (Array.range 0) = #[] := fun _ => by apply Array.ext'; simp
    have hsm2 : ¬ (16777216 < n * te.size) := by omega
    by_cases h9 : n * te.size = 0
    · have : reps te.zero.cells.toList n = [] := List.eq_nil_of_length_eq_zero (by rw [reps_length]; simp [hz.2.1, h9])
      rw [this] at h1
      simp [Instr.buildSlice, hu', hs', h9, hr0, h1, Go.newRow]
    · have e1 : (Array.range (n * te.size)).map (fun x => te.zero.cells[x % te.zero.cells.size]!) = (reps te.zero.cells.toList n).toArray := by
        apply Array.ext'; rw [← hz.2.1, zero_reps]
      simp [Instr.buildSlice, hu', hs', h9, hsm2, hzr, e1, h1, Go.newRow]
  · unfold capX; intro; omega
  · unfold capX; omega
  · unfold capX; intro h; omega
theorem makeSlice_run {t e : Nat} {te : Ty} {n m : Int} {k k' : IntKind} (hu : X.und t = some (.slice e)) (hte : X.ty e = some te) (h0 : 0 ≤ n) (h1 : n ≤ m) (hroom : roomOk m.toNat te.bytes = true) (hs : SRel X φ s.get w) (hf : Fresh φ s.size (s.size + 1)) :
    ∃ φ' u' w', (Instr.makeSlice t (.int k n) (.int k' m)).run P w = .ok u' w' ∧ VRel φ' (.slice (some ⟨s.size, 0, none⟩) n.toNat (capX m.toNat)) u' ∧ SRel X φ' (s.push (.own ⟨reps te.zero.cells.toList m.toNat, e, 0, 0, false⟩)).get w' ∧
      Step φ φ' s (s.push (.own ⟨reps te.zero.cells.toList m.toNat, e, 0, 0, false⟩)) w w' := by
  have hz := H.zero _ _ hte
  obtain ⟨i, hi, hi1, hi2, hi3⟩ := run_inf H w hte
  simp only [roomOk, Bool.and_eq_true, decide_eq_true_eq] at hroom
  have hwn : IntKind.i64.wrap n = n := wrap_small h0 (by omega)
  have hwm : IntKind.i64.wrap m = m := wrap_small (by omega) (by omega)
  have hb : ¬ ((i.bytes : Int) * m > 2 ^ 48) := by
    rw [hi2]
    have h3 : m = (m.toNat : Int) := by omega
    rw [h3, ← Int.natCast_mul, Nat.mul_comm]
    have := Int.ofNat_le.2 hroom.1
    have h4 : ((m.toNat * te.bytes : Nat) : Int) ≤ 70368744177664 := this
    omega
  have hzv : VRels φ (reps te.zero.cells.toList m.toNat) (reps te.zero.cells.toList m.toNat) := reps_rel (VRel.cst 2 _ hz.1).cells _
  obtain ⟨k1, k2⟩ := new_row (str := false) (fr := (0, 0)) hs hte hf hzv (rest := []) (w' := w.alloc (.cells (reps te.zero.cells.toList m.toNat).toArray e)) (by simp [World.alloc, -World.alloc_eq]) (fun _ => rfl) rfl rfl rfl
  refine ⟨_, _, _, ?_, VRel.slice ⟨s.size, 0, none⟩ _ _ _ _ m.toNat (Phi.ext_same _ _ _ _) (.inl rfl) (by omega) ?_ ?_ ?_, k1, k2⟩
  · have hu' := run_ud H w hu
    have hs' := run_size H w hte
    have hzr := run_zero H w hte
    have hr0 : ∀ (f : Nat → Value), Array.map f (Array.range 0) = #[] := fun _ => by apply Array.ext'; simp
    have c1 : ¬ m < 0 := by omega
    have c2 : ¬ n < 0 := by omega
    have c3 : ¬ m < n := by omega
    have c4 : ¬ (281474976710656 < (i.bytes : Int) * m) := by simpa using hb
    by_cases h9 : m.toNat * te.size = 0
    · have : reps te.zero.cells.toList m.toNat = [] := List.eq_nil_of_length_eq_zero (by rw [reps_length]; simp [hz.2.1, h9])
      simp [Instr.makeSlice, hu', hs', asInt, asIntOf, hi, hwn, hwm, c1, c2, c3, c4, h9, this, hr0, Go.newRow]
    · have e1 : (Array.range (m.toNat * te.size)).map (fun x => te.zero.cells[x % te.zero.cells.size]!) = (reps te.zero.cells.toList m.toNat).toArray := by
        apply Array.ext'; rw [← hz.2.1, zero_reps]
      simp [Instr.makeSlice, hu', hs', asInt, asIntOf, hi, hwn, hwm, c1, c2, c3, c4, h9, hzr, e1, Go.newRow]
  · unfold capX; intro; omega
  · unfold capX; omega
  · unfold capX; intro h; omega
theorem aop_sound (o : Oper) {ev ev' : Operand → Value} {v : Value} {s' : St} (h : aop X ev o.op s = some (v, s')) (hev : ∀ x ∈ o.op.operands, VRel φ (ev x) (ev' x)) (hs : SRel X φ s.get w) (hf : Fresh φ s.size s'.size) :
    Done X φ s w v s' ((execOp ev' o).run P w) := by
  obtain ⟨dst, op, type, pos, after, guard⟩ := o
  simp only at h hev
  have partsRel : ∀ ps : Array (Nat × Operand), (∀ x ∈ (ps.toList.map (·.2)).toArray, VRel φ (ev x) (ev' x)) → (evParts ev ps).map (·.1) = (ps.map fun (i, x) => (i, ev' x)).toList.map (·.1) ∧ VRels φ ((evParts ev ps).map (·.2)) ((ps.map fun (i, x) => (i, ev' x)).toList.map (·.2)) := by
    intro ps hp
    constructor
    · simp [evParts]
    · simp only [evParts, List.map_map, Array.toList_map]
      refine VRels.map _ _ _ fun x hx => hp x.2 ?_
      simp only [List.mem_toArray, List.mem_map]
      exact ⟨x, hx, rfl⟩
  have optRel : ∀ o : Option Operand, (∀ x ∈ o.toArray, VRel φ (ev x) (ev' x)) → OptRel φ (o.map ev) (o.map ev') := by
    intro o ho
    cases o with
    | none => exact .none
    | some x => exact .some _ _ (ho x (by simp))
  cases op with
  | move x =>
    simp only [aop, Option.some.injEq, Prod.mk.injEq] at h
    obtain ⟨rfl, rfl⟩ := h
    exact Done.quiet hs rfl (hev x (by simp [Op.operands]))
  | assign x =>
    simp only [aop, Option.some.injEq, Prod.mk.injEq] at h
    obtain ⟨rfl, rfl⟩ := h
    exact Done.quiet hs rfl (hev x (by simp [Op.operands]))
  | pick c a b =>
    simp only [aop] at h
    split at h
    · rename_i t ht
      simp only [Option.some.injEq, Prod.mk.injEq] at h
      obtain ⟨rfl, rfl⟩ := h
      have hc := hev c (by simp [Op.operands])
      rw [ht] at hc
      have hc2 := hc.inv_bool
      refine Done.quiet hs (v' := if t then ev' a else ev' b) ?_ ?_
      · simp [execOp, hc2, asBool]
      · cases t
        · exact hev b (by simp [Op.operands])
        · exact hev a (by simp [Op.operands])
    · cases h
  | alloc t =>
    simp only [aop] at h
    split at h
    · rename_i ty hty
      simp only [Option.some.injEq, Prod.mk.injEq] at h
      obtain ⟨rfl, rfl⟩ := h
      obtain ⟨φ', v', w', h1, h2, h3, h4⟩ := alloc_run H hty hs (by simpa [St.size_push] using hf)
      exact ⟨φ', v', _, w', by simp [execOp, h1], .inl rfl, h2, h3, h4⟩
    · cases h
  | box t x =>
    simp only [aop] at h
    split at h
    · rename_i ty hty
      simp only [Option.some.injEq, Prod.mk.injEq] at h
      obtain ⟨rfl, rfl⟩ := h
      obtain ⟨φ', v', w', h1, h2, h3, h4⟩ := box_run (P := P) hty (hev x (by simp [Op.operands])) hs (by simpa [St.size_push] using hf)
      exact ⟨φ', v', _, w', by simp [execOp, h1], .inl rfl, h2, h3, h4⟩
    · cases h
  | build t ps =>
    simp only [aop, Option.map_eq_some_iff, Prod.mk.injEq] at h
    obtain ⟨u, hu, rfl, rfl⟩ := h
    obtain ⟨p1, p2⟩ := partsRel ps (by simpa [Op.operands] using hev)
    obtain ⟨v', h1, h2⟩ := build_run H w hu p1 p2
    exact Done.quiet hs (by simp [execOp, h1]) h2
  | buildSlice t n ps =>
    simp only [aop] at h
    split at h
    · rename_i e hu
      split at h
      · rename_i te hte
        split at h
        · rename_i hsm
          split at h
          · rename_i cs hcs
            simp only [Option.some.injEq, Prod.mk.injEq] at h
            obtain ⟨rfl, rfl⟩ := h
            obtain ⟨p1, p2⟩ := partsRel ps (by simpa [Op.operands] using hev)
            obtain ⟨φ', v', w', h1, h2, h3, h4⟩ := buildSlice_run H hu hte hsm hcs p1 p2 hs (by simpa [St.size_push] using hf)
            exact ⟨φ', v', _, w', by simp [execOp, h1], .inl rfl, h2, h3, h4⟩
          · cases h
        · cases h
      · cases h
    · cases h
  | load t a =>
    simp only [aop, Option.map_eq_some_iff, Prod.mk.injEq] at h
    obtain ⟨u, hu, rfl, rfl⟩ := h
    obtain ⟨v', h1, h2⟩ := loadv_run H hu (hev a (by simp [Op.operands])) hs
    exact Done.quiet hs (by simp [execOp, h1]) h2
  | store t a x =>
    simp only [aop, Option.map_eq_some_iff, Prod.mk.injEq] at h
    obtain ⟨s2, hu, rfl, rfl⟩ := h
    obtain ⟨w', h1, h2, h3⟩ := storev_run H hu (hev a (by simp [Op.operands])) (hev x (by simp [Op.operands])) hs
    exact Done.unit (by simp [execOp, h1]) h2 h3
  | nilCheck x =>
    simp only [aop, Option.map_eq_some_iff, Prod.mk.injEq] at h
    obtain ⟨u, hu, rfl, rfl⟩ := h
    obtain ⟨n1, n2, n3, n4, h2⟩ := nilCheck_run hu (hev x (by simp [Op.operands]))
    refine Done.quiet hs (v' := ev' x) ?_ h2
    simp only [execOp]
    rfl
  | binOp op t x y yt =>
    simp only [aop, Option.map_eq_some_iff, Prod.mk.injEq] at h
    obtain ⟨u, hu, rfl, rfl⟩ := h
    obtain ⟨v', h1, h2⟩ := binOp_run H w (x := x) (y := y) hu (hev x (by simp [Op.operands])) (hev y (by simp [Op.operands]))
    refine Done.quiet hs ?_ h2
    simp only [execOp, Sem.run_bind] at h1 ⊢
    rw [h1]; rfl
  | unOp op t x =>
    simp only [aop, Option.map_eq_some_iff, Prod.mk.injEq] at h
    obtain ⟨u, hu, rfl, rfl⟩ := h
    obtain ⟨v', h1, h2⟩ := unOp_run (P := P) w hu (hev x (by simp [Op.operands]))
    exact Done.quiet hs (by simp [execOp, h1]) h2
  | convert a b x =>
    simp only [aop] at h
    obtain ⟨φ', v', w', h1, h2, h3, h4⟩ := convert_run H h (hev x (by simp [Op.operands])) hs hf
    exact ⟨φ', v', _, w', by simp [execOp, h1], .inl rfl, h2, h3, h4⟩
  | makeFunc fn first captured =>
    simp only [aop, Option.some.injEq, Prod.mk.injEq] at h
    obtain ⟨rfl, rfl⟩ := h
    refine Done.quiet hs (v' := .func fn (first.map ev') (captured.map ev')) (by simp [execOp, Instr.makeFunc]) (.func _ _ _ _ _ ?_ ?_)
    · simp only [Array.toList_map]
      exact VRels.map _ _ _ fun x hx => hev x (by simp [Op.operands]; exact .inl (by simpa using hx))
    · simp only [Array.toList_map]
      exact VRels.map _ _ _ fun x hx => hev x (by simp [Op.operands]; exact .inr (by simpa using hx))
  | makeMap t r =>
    cases r with
    | some r => simp [aop] at h
    | none =>
      simp only [aop] at h
      split at h
      · simp only [Option.some.injEq, Prod.mk.injEq] at h
        obtain ⟨rfl, rfl⟩ := h
        obtain ⟨k1, k2⟩ := new_run (X := X) (w' := w.alloc (.map #[] 0)) (o := .map [] 0) (o' := .map #[] 0) (l := ⟨w.heap.size, 0, 0, 0⟩) hs (by simpa [St.size_push] using hf) (by simp [World.alloc, -World.alloc_eq]) rfl rfl rfl rfl
          ⟨rfl, #[], by simp [World.alloc, -World.alloc_eq], .nil⟩
        exact ⟨_, .map (some w.heap.size), _, _, by simp [execOp, Instr.makeMap], .inl rfl, .map _ _ (Phi.ext_same _ _ _ _), k1, k2⟩
      · cases h
  | makeSlice t l c =>
    simp only [aop] at h
    split at h
    · rename_i e k n k' m hu hl hc
      split at h
      · rename_i te hte
        split at h
        · rename_i hcond
          simp only [Option.some.injEq, Prod.mk.injEq] at h
          obtain ⟨rfl, rfl⟩ := h
          have h1 := hev l (by simp [Op.operands])
          have h2 := hev c (by simp [Op.operands])
          rw [hl] at h1; rw [hc] at h2
          have e1 := h1.inv_int
          have e2 := h2.inv_int
          obtain ⟨φ', v', w', h1, h2, h3, h4⟩ := makeSlice_run H (k := k) (k' := k') hu hte hcond.1 hcond.2.1 hcond.2.2 hs (by simpa [St.size_push] using hf)
          exact ⟨φ', v', _, w', by simp [execOp, e1, e2, h1], .inl rfl, h2, h3, h4⟩
        · cases h
      · cases h
    · cases h
  | slice t x lo hi mx =>
    simp only [aop, Option.map_eq_some_iff, Prod.mk.injEq] at h
    obtain ⟨u, hu, rfl, rfl⟩ := h
    obtain ⟨v', h1, h2⟩ := slice_run H w hu (hev x (by simp [Op.operands])) (optRel lo fun y hy => hev y (by simp [Op.operands] at hy ⊢; simp [hy])) (optRel hi fun y hy => hev y (by simp [Op.operands] at hy ⊢; simp [hy])) (optRel mx fun y hy => hev y (by simp [Op.operands] at hy ⊢; simp [hy]))
    exact Done.quiet hs (by simp [execOp, h1]) h2
  | fieldAddr t x f =>
    simp only [aop, Option.map_eq_some_iff, Prod.mk.injEq] at h
    obtain ⟨u, hu, rfl, rfl⟩ := h
    obtain ⟨v', h1, h2⟩ := fieldAddr_run H w hu (hev x (by simp [Op.operands]))
    exact Done.quiet hs (by simp [execOp, h1]) h2
  | field t x f =>
    simp only [aop, Option.map_eq_some_iff, Prod.mk.injEq] at h
    obtain ⟨u, hu, rfl, rfl⟩ := h
    obtain ⟨v', h1, h2⟩ := field_run H w hu (hev x (by simp [Op.operands]))
    exact Done.quiet hs (by simp [execOp, h1]) h2
  | indexAddr t x i =>
    simp only [aop, Option.map_eq_some_iff, Prod.mk.injEq] at h
    obtain ⟨u, hu, rfl, rfl⟩ := h
    obtain ⟨v', h1, h2⟩ := indexAddr_run H w hu (hev x (by simp [Op.operands])) (hev i (by simp [Op.operands]))
    exact Done.quiet hs (by simp [execOp, h1]) h2
  | index t x i =>
    simp only [aop, Option.map_eq_some_iff, Prod.mk.injEq] at h
    obtain ⟨u, hu, rfl, rfl⟩ := h
    obtain ⟨v', h1, h2⟩ := index_run H w hu (hev x (by simp [Op.operands])) (hev i (by simp [Op.operands]))
    exact Done.quiet hs (by simp [execOp, h1]) h2
  | lookup t m k ok =>
    simp only [aop, Option.map_eq_some_iff, Prod.mk.injEq] at h
    obtain ⟨u, hu, rfl, rfl⟩ := h
    obtain ⟨v', h1, h2⟩ := lookup_run H hu (hev m (by simp [Op.operands])) (hev k (by simp [Op.operands])) hs
    exact Done.quiet hs (by simp [execOp, h1]) h2
  | mapUpdate t m k x =>
    simp only [aop, Option.map_eq_some_iff, Prod.mk.injEq] at h
    obtain ⟨s2, hu, rfl, rfl⟩ := h
    obtain ⟨w', h1, h2, h3⟩ := mapUpdate_run H hu (hev m (by simp [Op.operands])) (hev k (by simp [Op.operands])) (hev x (by simp [Op.operands])) hs
    exact Done.unit (by simp [execOp, h1]) h2 h3
  | range t x =>
    simp only [aop] at h
    split at h
    · rename_i b hu hx
      simp only [Option.some.injEq, Prod.mk.injEq] at h
      obtain ⟨rfl, rfl⟩ := h
      have h1 := hev x (by simp [Op.operands])
      rw [hx] at h1
      have e1 := h1.inv_string
      obtain ⟨k1, k2⟩ := new_run (X := X) (w' := w.alloc (.stringIter b 0)) (o := .iter b 0) (o' := .stringIter b 0) (l := ⟨w.heap.size, 0, 0, 0⟩) hs (by simpa [St.size_push] using hf) (by simp [World.alloc, -World.alloc_eq]) rfl rfl rfl rfl
        ⟨rfl, rfl, by simp [World.alloc, -World.alloc_eq]⟩
      have hu' := run_ud H w hu
      exact ⟨_, _, _, _, by simp [execOp, Instr.range, e1, hu'], .inl rfl, VRel.ptr ⟨s.size, 0, none⟩ _ (Phi.ext_same _ _ _ _), k1, k2⟩
    · cases h
  | next it isStr =>
    cases isStr with
    | false => simp [aop] at h
    | true =>
      simp only [aop] at h
      split at h
      · rename_i a ha
        split at h
        · rename_i hoff
          split at h
          · rename_i b pos hb
            have h1 := hev it (by simp [Op.operands])
            rw [ha] at h1
            generalize hw : ev' it = p at h1
            cases h1 with | ptr a l hl =>
            have hoo := hs.obj _ _ _ hl _ hb
            obtain ⟨he0, hlo, hg⟩ := hoo
            have hgo : (getObj l.c).run P w = .ok (.stringIter b pos) w := by simp [getObj, Sem.run, hg]
            have hso : ∀ o', (setObj l.c o').run P w = .ok () { w with heap := w.heap.setIfInBounds l.c o' } := fun o' => by simp [setObj, Sem.run, hg]
            have hz : l.off + a.off = 0 := by omega
            split at h
            · rename_i hpos
              simp only [Option.some.injEq, Prod.mk.injEq] at h
              obtain ⟨rfl, rfl⟩ := h
              rw [he0] at hl
              have hlt := hs.lt _ _ _ hl
              obtain ⟨q1, q2⟩ := upd_obj (X := X) hs (o' := .stringIter b (pos + (Utf8.decode b pos).2)) (o1 := .iter b (pos + (Utf8.decode b pos).2)) hb hl rfl rfl (fun e l' he => (hs.obj _ _ _ he _ hb).1) ⟨rfl, hlo, by simp [hlt]⟩
              exact ⟨φ, .tuple #[.bool true, .int .i64 pos, .int .i32 (Utf8.decode b pos).1], _, _, by simp [execOp, Instr.next, hw, hz, hgo, hso, hpos, goInt], .inl rfl, .tuple _ _ (.cons _ _ _ _ (.bool _) (.cons _ _ _ _ (.int _ _) (.cons _ _ _ _ (.int _ _) .nil))), q1, q2⟩
            · rename_i hpos
              simp only [Option.some.injEq, Prod.mk.injEq] at h
              obtain ⟨rfl, rfl⟩ := h
              exact Done.quiet hs (v' := .tuple #[.bool false]) (by simp [execOp, Instr.next, hw, hz, hgo, hpos]) (.tuple _ _ (.cons _ _ _ _ (.bool _) .nil))
          · cases h
        · cases h
      · cases h
  | extract t i =>
    simp only [aop] at h
    split at h
    · rename_i vs hvs
      simp only [Option.map_eq_some_iff, Prod.mk.injEq] at h
      obtain ⟨u, hu, rfl, rfl⟩ := h
      have h1 := hev t (by simp [Op.operands])
      rw [hvs] at h1
      generalize hw : ev' t = p at h1
      cases h1 with | tuple a a' ha =>
      obtain ⟨v', h2, h3⟩ := ha.get i _ (by simpa using hu)
      have h2' : a'[i]? = some v' := by simpa using h2
      exact Done.quiet hs (by simp [execOp, hw, Instr.extract, h2']) h3
    · cases h
  | call c =>
    obtain ⟨callee, args, argTypes⟩ := c
    cases callee with
    | value f => simp [aop] at h
    | invoke r m => simp [aop] at h
    | builtin b =>
      simp only [aop] at h
      obtain ⟨l⟩ := args
      have hl : ∀ x ∈ l, VRel φ (ev x) (ev' x) := fun x hx => hev x (by simp [Op.operands, Call.operands, hx])
      simp only [execOp, resolve, Sem.run_bind, Sem.run_pure, Result.andThen_ok, invoke]
      unfold builtinv at h
      split at h
      · rename_i x hx
        rcases l with _ | ⟨x0, _ | ⟨y0, l⟩⟩ <;> simp at hx
        subst hx
        split at h
        · rename_i t ht
          simp only [Option.map_eq_some_iff, Prod.mk.injEq] at h
          obtain ⟨n, hn, rfl, rfl⟩ := h
          have := len_run H (ty0 := type) ht hn (hl x0 (by simp)) hs
          exact Done.quiet hs (by simp [builtin, this]) (.int _ _)
        · cases h
      · rename_i hx
        rcases l with _ | ⟨x0, _ | ⟨y0, l⟩⟩ <;> simp at hx
        split at h
        · rename_i t ht
          split at h
          · rename_i e hu
            simp only [Option.some.injEq, Prod.mk.injEq] at h
            obtain ⟨rfl, rfl⟩ := h
            have h1 := hl x0 (by simp)
            rw [hx] at h1
            have e1 := h1.inv_nilSlice
            have hu' := run_ud H w hu
            exact Done.quiet hs (v' := .int .i64 0) (by simp [builtin, Builtin.cap_, ht, e1, hu', goInt]) (.int _ _)
          · cases h
        · cases h
      · rename_i a n c hx
        rcases l with _ | ⟨x0, _ | ⟨y0, l⟩⟩ <;> simp at hx
        split at h
        · rename_i t ht
          split at h
          · rename_i e hu
            split at h
            · rename_i hodd
              simp only [Option.some.injEq, Prod.mk.injEq] at h
              obtain ⟨rfl, rfl⟩ := h
              have h1 := hl x0 (by simp)
              rw [hx] at h1
              generalize hw : ev' x0 = p at h1
              cases h1 with | slice a l len cap aa cap' hl h1 h2 h3 h4 h5 =>
              have hu' := run_ud H w hu
              have := h3 hodd
              subst this
              exact Done.quiet hs (v' := .int .i64 ((c / 2 : Nat) : Int)) (by simp [builtin, Builtin.cap_, ht, hw, hu', goInt]) (.int _ _)
            · cases h
          · cases h
        · cases h
      · rename_i x y hx
        rcases l with _ | ⟨x0, _ | ⟨y0, _ | ⟨z0, l⟩⟩⟩ <;> simp at hx
        obtain ⟨rfl, rfl⟩ := hx
        obtain ⟨φ', v', w', h1, h2, h3, h4⟩ := append_run H (ty0 := type) h (hl x0 (by simp)) (hl y0 (by simp)) hs hf
        exact ⟨φ', v', _, w', by simp [builtin, h1], .inl rfl, h2, h3, h4⟩
      · rename_i x y hx
        rcases l with _ | ⟨x0, _ | ⟨y0, _ | ⟨z0, l⟩⟩⟩ <;> simp at hx
        obtain ⟨rfl, rfl⟩ := hx
        obtain ⟨v', w', h1, h2, h3, h4⟩ := copy_run H (ty0 := type) h (hl x0 (by simp)) (hl y0 (by simp)) hs
        exact ⟨φ, v', _, w', by simp [builtin, h1], .inl rfl, h2, h3, h4⟩
      · rename_i x hx
        rcases l with _ | ⟨x0, _ | ⟨y0, l⟩⟩ <;> simp at hx
        subst hx
        obtain ⟨v', w', h1, h2, h3, h4⟩ := clear_run H (ty0 := type) h (hl x0 (by simp)) hs
        exact ⟨φ, v', _, w', by simp [builtin, h1], .inl rfl, h2, h3, h4⟩
      · rename_i x y hx
        rcases l with _ | ⟨x0, _ | ⟨y0, _ | ⟨z0, l⟩⟩⟩ <;> simp at hx
        obtain ⟨rfl, rfl⟩ := hx
        split at h
        · rename_i t ht
          simp only [Option.map_eq_some_iff, Prod.mk.injEq] at h
          obtain ⟨s2, hs2, rfl, rfl⟩ := h
          obtain ⟨w', h1, h3, h4⟩ := delete_run H (ty0 := type) ht hs2 (hl x0 (by simp)) (hl y0 (by simp)) hs
          exact ⟨φ, .tuple #[], _, w', by simp [builtin, h1], .inl rfl, .tuple _ _ .nil, h3, h4⟩
        · cases h
      · rename_i hx
        rcases l with _ | ⟨x0, _ | ⟨y0, l⟩⟩ <;> simp at hx
        simp only [Option.some.injEq, Prod.mk.injEq] at h
        obtain ⟨rfl, rfl⟩ := h
        have h1 := hl x0 (by simp)
        rw [hx] at h1
        have e1 := h1.inv_nilSlice
        exact Done.quiet hs (v' := .pointer none) (by simp [builtin, e1, Lib.run_unsafeSliceData_nil]) .nilPtr
      · rename_i a n c hx
        rcases l with _ | ⟨x0, _ | ⟨y0, l⟩⟩ <;> simp at hx
        split at h
        · rename_i hc
          simp only [Option.some.injEq, Prod.mk.injEq] at h
          obtain ⟨rfl, rfl⟩ := h
          have h1 := hl x0 (by simp)
          rw [hx] at h1
          generalize hw : ev' x0 = p at h1
          cases h1 with | slice a l0 len cap aa cap' hl0 h1 h2 h3 h4 h5 =>
          have hne : cap' ≠ 0 := by omega
          have hco : aa = ⟨l0.c, l0.off + a.off, none⟩ := by rcases h1 with h1 | h1; exact h1; exact absurd h1 hne
          subst hco
          exact Done.quiet hs (v' := .pointer (some ⟨l0.c, l0.off + a.off, none⟩)) (by simp [builtin, hw, Lib.run_unsafeSliceData_row w _ _ _ _ _ hne]) (.ptr a l0 hl0)
        · cases h
      · rename_i p n hx
        rcases l with _ | ⟨x0, _ | ⟨y0, _ | ⟨z0, l⟩⟩⟩ <;> simp at hx
        have h1 := hl x0 (by simp)
        rw [hx.1] at h1
        have h2 := hl y0 (by simp)
        rw [hx.2] at h2
        generalize hw : ev' y0 = q at h2
        cases h2
        obtain ⟨w', k1, k2, k3, k4⟩ := unsafeStr_run H (ty0 := type) h h1 hs
        exact ⟨φ, v, _, w', by simp [builtin, hw, k1], .inl rfl, k2, k3, k4⟩
      · rename_i x r hx
        rcases l with _ | ⟨x0, l⟩ <;> simp at hx
        obtain ⟨rfl, rfl⟩ := hx
        simp only [Option.map_eq_some_iff, Prod.mk.injEq] at h
        obtain ⟨u, hu, rfl, rfl⟩ := h
        obtain ⟨v', h1, h2⟩ := min_run (P := P) w _ _ _ _ _ hu (hl x0 (by simp)) (VRels.map ev ev' l fun y hy => hl y (by simp [hy]))
        exact Done.quiet hs (by simp [builtin, Builtin.min_, h1]) h2
      · rename_i x r hx
        rcases l with _ | ⟨x0, l⟩ <;> simp at hx
        obtain ⟨rfl, rfl⟩ := hx
        simp only [Option.map_eq_some_iff, Prod.mk.injEq] at h
        obtain ⟨u, hu, rfl, rfl⟩ := h
        obtain ⟨v', h1, h2⟩ := max_run (P := P) w _ _ _ _ _ hu (hl x0 (by simp)) (VRels.map ev ev' l fun y hy => hl y (by simp [hy]))
        exact Done.quiet hs (by simp [builtin, Builtin.max_, h1]) h2
      · cases h
  | _ => simp [aop] at h
end
end Go.Proofs.Yticllcglldbffaa.Ab
end
section
namespace Go.Proofs.Yticllcglldbffaa.Ab
def opdOk (X : Prg) : Operand → Bool
  | .const v => cstOk 4 v
  | .global g => X.glob g
  | _ => true
def operOk (X : Prg) (n : Nat) (o : Oper) : Bool :=
  o.op.operands.toList.all (opdOk X) && (match o.dst with | some d => decide (d < n) | none => true)
def codeOk (X : Prg) (n : Nat) : Code → Bool
  | .region _ ops draw => ops.toList.all (operOk X n) && (!draw || statOk X ops.toList)
  | .seq a b => codeOk X n a && codeOk X n b
  | .cond c a b => opdOk X c && codeOk X n a && codeOk X n b
  | .block _ c | .loop c | .scope c => codeOk X n c
  | .skip | .exit _ | .ret | .label _ | .goto _ => true
  | _ => true
def Grow (w w' : World) : Prop := w'.os = w.os ∧ w'.tape = w.tape ∧ w'.output = w.output ∧ w.heap.size ≤ w'.heap.size ∧ ∀ c, c < w.heap.size → w'.heap[c]? = w.heap[c]?
def LaidIn (laid : List (Nat × List Value)) (w : World) : Prop := ∀ p ∈ laid, p.1 < w.heap.size ∧ ∀ i v, p.2[i]? = some v → w.cell? ⟨p.1, i, none⟩ = some v
def Knows (P : Program) (laid : List (Nat × List Value)) (known : Nat → List Value → Option Value) : Prop :=
  ∀ f args v, known f args = some v → args.all plainV = true → (∃ fn, P.funcs[f]? = some fn ∧ fn.body.isSome = true ∧ (fn.name == "runtime.NumGoroutine") = false) ∧ ∀ w, LaidIn laid w → Calls P f args.toArray w fun e w' => e = .returned v ∧ Grow w w'
structure SoundF (X : Prg) (P : Program) : Prop extends Sound X P where
  fn : ∀ f fn, X.fn f = some fn → P.funcs[f]? = some fn
  name : ∀ f fn, X.fn f = some fn → (fn.name == "runtime.NumGoroutine") = false
  code : ∀ f fn c, X.fn f = some fn → fn.body = some c → codeOk X fn.ntmps c = true
  mixed : P.follows .mixedOrders = true
  knows : Knows P X.laid X.known
def GlobOk (X : Prg) (φ : Phi) : Prop := ∀ g, X.glob g = true → ∃ l, φ g 0 = some l ∧ l.c = g ∧ l.off = 0
theorem GlobOk.mono {X : Prg} {φ φ' : Phi} (h : GlobOk X φ) (hle : φ.le φ') : GlobOk X φ' := fun g hg =>
  let ⟨l, h1, h2⟩ := h g hg
  ⟨l, hle _ _ _ h1, h2⟩
def EnvRel (φ : Phi) (ρ : Env) (a : Act) : Prop := ∀ t, VRel φ (ρ.get t) (a.tmps.getD t undef)
theorem EnvRel.mono {φ φ' : Phi} {ρ : Env} {a : Act} (h : EnvRel φ ρ a) (hle : φ.le φ') : EnvRel φ' ρ a := fun t => (h t).mono hle
theorem evo_rel {X : Prg} {φ : Phi} {ρ : Env} {a : Act} (h : EnvRel φ ρ a) (hg : GlobOk X φ) {x : Operand} (hx : opdOk X x = true) : VRel φ (evo ρ x) (a.eval x) := by
  cases x with
  | tmp t => exact h t
  | const v => exact VRel.cst 4 v hx
  | global g =>
    obtain ⟨l, h1, h2, h3⟩ := hg g hx
    have := VRel.ptr (φ := φ) ⟨g, 0, none⟩ l h1
    rw [h2, h3] at this
    exact this
  | func f => exact .func _ _ _ _ _ .nil .nil
theorem opds_rel {X : Prg} {φ : Phi} {ρ : Env} {a : Act} {o : Oper} {n : Nat} (hr : EnvRel φ ρ a) (hg : GlobOk X φ) (ho : operOk X n o = true) : ∀ x ∈ o.op.operands, VRel φ (evo ρ x) (a.eval x) := fun x hx => by
  unfold operOk at ho
  rw [Bool.and_eq_true, List.all_eq_true] at ho
  exact evo_rel hr hg (ho.1 x (Array.mem_toList_iff.2 hx))
theorem put_rel {φ : Phi} {ρ : Env} {a : Act} {v v' : Value} {d : Option Nat} (h : EnvRel φ ρ a) (hv : VRel φ v v') (hd : ∀ i, d = some i → i < a.tmps.size) : EnvRel φ (ρ.put d v) (a.put d v') := by
  cases d with
  | none => exact h
  | some i =>
    intro t
    have hi := hd i rfl
    simp only [Env.put, Act.put, Env.get_set]
    split
    · rename_i he; subst he
      simpa [hi] using hv
    · rename_i he
      have := h t
      simpa [Array.getElem?_setIfInBounds, he] using this
theorem put_size (a : Act) (d : Option Nat) (v : Value) : (a.put d v).tmps.size = a.tmps.size := by cases d <;> simp [Act.put]
theorem put_defers (a : Act) (d : Option Nat) (v : Value) : (a.put d v).defers = a.defers := by cases d <;> rfl
theorem wanted_rel {φ : Phi} {ρ : Env} {a : Act} (all : Array Oper) (o : Oper) (h : ∀ j want d, o.guard = some (j, want) → (all[j]?).bind (·.dst) = some d → VRel φ (ρ.get d) (a.tmps.getD d undef)) : Region.wanted o (yielded all a.tmps) = wantedE all o ρ := by
  unfold Region.wanted wantedE yielded
  cases hg : o.guard with
  | none => rfl
  | some p =>
    obtain ⟨j, want⟩ := p
    simp only
    cases hd : (all[j]?).bind (·.dst) with
    | none => simp
    | some d =>
      simp only [Option.bind_some]
      have := h j want d hg hd
      cases ht : a.tmps[d]? with
      | none =>
        simp only [Array.getD_eq_getD_getElem?, ht, Option.getD_none] at this
        generalize ρ.get d = u at this
        cases this
        simp
      | some x =>
        simp only [Array.getD_eq_getD_getElem?, ht, Option.getD_some] at this
        generalize ρ.get d = u at this
        cases this <;> simp <;> (try (cases want <;> simp [beq_iff_eq] <;> rfl))
def Keep (s s' : St) : Prop := s.size ≤ s'.size ∧ ∀ b, b < s.size → isMut (s'.get b) = isMut (s.get b)
theorem Keep.refl (s : St) : Keep s s := ⟨Nat.le_refl _, fun _ _ => rfl⟩
theorem Keep.trans {s s1 s2 : St} (h : Keep s s1) (k : Keep s1 s2) : Keep s s2 := ⟨Nat.le_trans h.1 k.1, fun b hb => by rw [k.2 b (Nat.lt_of_lt_of_le hb h.1), h.2 b hb]⟩
theorem Keep.push (s : St) (o : AObj) : Keep s (s.push o) := ⟨by simp [St.size_push], fun b hb => by rw [St.get_push, if_neg (by omega)]⟩
theorem Keep.set {s : St} {b : Nat} {o0 o : AObj} (h : s.get b = some o0) (h0 : isMut (some o0) = true) (h1 : isMut (some o) = true) : Keep s (s.set b o) :=
  ⟨Nat.le_refl _, fun c _ => by
    rw [St.get_set h]
    split
    · rename_i he; subst he; rw [h, h0, h1]
    · rfl⟩
theorem wr_keep {s s' : St} {a : Addr} {vs : List Value} (h : s.wr a vs = some s') : Keep s s' := by
  unfold St.wr at h
  split at h
  · rename_i hb
    split at h
    · cases h; exact Keep.set hb rfl rfl
    · cases h
  · cases h
theorem storev_keep {X : Prg} {s s' : St} {t : TypeId} {p v : Value} (h : storev X t p v s = some s') : Keep s s' := by
  unfold storev at h
  split at h
  · split at h
    · exact wr_keep h
    · cases h
  · cases h
theorem mapUpdate_keep {X : Prg} {s s' : St} {t : TypeId} {m k v : Value} (h : mapUpdatev X t m k v s = some s') : Keep s s' := by
  unfold mapUpdatev at h
  repeat' split at h
  all_goals first | (cases h; done) | (cases h; exact Keep.set (by assumption) rfl rfl)
theorem delete_keep {X : Prg} {s s' : St} {t : TypeId} {m k : Value} (h : deletev X t m k s = some s') : Keep s s' := by
  unfold deletev at h
  repeat' split at h
  all_goals first | (cases h; done) | (cases h; exact Keep.set (by assumption) rfl rfl)
theorem append_keep {te : Ty} {e n : Nat} {vs : List Value} {x v : Value} {s s' : St} (h : appendTo te e n vs x s = some (v, s')) : Keep s s' := by
  unfold appendTo at h
  repeat' split at h
  all_goals first
    | (cases h; done)
    | (cases h; exact Keep.refl _)
    | (cases h; exact Keep.push _ _)
    | (cases h; rename_i hw; exact wr_keep hw)
    | (cases h; exact Keep.set (by assumption) rfl rfl)
theorem aop_keep {X : Prg} {ev : Operand → Value} {op : Op} {s s' : St} {v : Value} (h : aop X ev op s = some (v, s')) : Keep s s' := by
  unfold aop at h
  split at h
  all_goals first
    | (cases h; exact Keep.refl _)
    | (simp only [Option.map_eq_some_iff, Prod.mk.injEq] at h; obtain ⟨_, _, _, rfl⟩ := h; exact Keep.refl _)
    | (simp only [Option.map_eq_some_iff, Prod.mk.injEq] at h; obtain ⟨_, h1, _, rfl⟩ := h; first | exact storev_keep h1 | exact mapUpdate_keep h1)
    | (repeat' split at h
       all_goals first | (cases h; done) | (cases h; exact Keep.refl _) | (cases h; exact Keep.push _ _) | (cases h; exact Keep.set (by assumption) rfl rfl))
    | skip
  · unfold convertv at h
    repeat' split at h
    all_goals first
      | (cases h; done)
      | (cases h; exact Keep.refl _)
      | (cases h; exact Keep.push _ _)
      | (simp only [Option.map_eq_some_iff, Prod.mk.injEq] at h; obtain ⟨_, _, _, rfl⟩ := h; exact Keep.refl _)
  · split at h
    · simp only [Option.map_eq_some_iff, Prod.mk.injEq] at h; obtain ⟨_, _, _, rfl⟩ := h; exact Keep.refl _
    · cases h
  · unfold builtinv at h
    repeat' split at h
    all_goals first
      | (cases h; done)
      | (cases h; exact Keep.refl _)
      | (simp only [Option.map_eq_some_iff, Prod.mk.injEq] at h; obtain ⟨_, _, _, rfl⟩ := h; exact Keep.refl _)
      | (simp only [Option.map_eq_some_iff, Prod.mk.injEq] at h; obtain ⟨_, h1, _, rfl⟩ := h; exact delete_keep h1)
      | skip
    · unfold appendv at h
      repeat' split at h
      all_goals first | (cases h; done) | exact append_keep h
    · unfold copyv copyTo at h
      repeat' split at h
      all_goals first
        | (cases h; done)
        | (cases h; exact Keep.refl _)
        | (simp only [Option.map_eq_some_iff, Prod.mk.injEq] at h; obtain ⟨_, h1, _, rfl⟩ := h; exact wr_keep h1)
    · unfold clearv at h
      repeat' split at h
      all_goals first
        | (cases h; done)
        | (cases h; exact Keep.refl _)
        | (simp only [Option.map_eq_some_iff, Prod.mk.injEq] at h; obtain ⟨_, h1, _, rfl⟩ := h; exact wr_keep h1)
    · unfold unsafeStr at h
      repeat' split at h
      all_goals first
        | (cases h; done)
        | (cases h; exact Keep.refl _)
        | (cases h; exact Keep.set (by assumption) rfl rfl)
theorem aop_quiet {X : Prg} {ev : Operand → Value} {op : Op} {s s' : St} {v : Value} (h : aop X ev op s = some (v, s')) (he : isEff op = false) :
    (isNew X op = false ∧ s' = s) ∨ (isNew X op = true ∧ ∃ o, s' = s.push o ∧ ∀ s2 : St, s2.size = s.size → aop X ev op s2 = some (v, s2.push o)) := by
  unfold aop at h
  split at h
  all_goals first
    | (cases he; done)
    | (simp only [Option.map_eq_some_iff, Prod.mk.injEq] at h; obtain ⟨_, _, _, rfl⟩ := h; exact .inl ⟨rfl, rfl⟩)
    | (cases h; exact .inl ⟨rfl, rfl⟩)
    | (split at h
       · cases h; exact .inl ⟨rfl, rfl⟩
       · cases h)
    | skip
  · split at h
    · rename_i hty; cases h; exact .inr ⟨rfl, _, rfl, fun s2 h2 => by simp [aop, hty, h2]⟩
    · cases h
  · split at h
    · rename_i hty; cases h; exact .inr ⟨rfl, _, rfl, fun s2 h2 => by simp [aop, hty, h2]⟩
    · cases h
  · split at h
    · rename_i e hu
      split at h
      · rename_i te hte
        split at h
        · rename_i hsm
          split at h
          · rename_i cs hcs; cases h; exact .inr ⟨rfl, _, rfl, fun s2 h2 => by simp [aop, hu, hte, hsm, hcs, h2]⟩
          · cases h
        · cases h
      · cases h
    · cases h
  · -- convert
    rename_i a b x
    unfold convertv at h
    split at h
    · rename_i ts td hta htb
      split at h
      all_goals first
        | (rename_i e1 e2; cases h; exact .inl ⟨by simp [isNew, Prg.und, hta, htb, e1, e2], rfl⟩)
        | (rename_i e1 e2 _; cases h; exact .inl ⟨by simp [isNew, Prg.und, hta, htb, e1, e2], rfl⟩)
        | skip
      · rename_i e c e1 e2 hx
        split at h
        · rename_i hu; cases h
          exact .inr ⟨by simp [isNew, Prg.und, hta, htb, e1, e2], _, rfl, fun s2 h2 => by simp [aop, convertv, hta, htb, e1, e2, hx, hu, h2]⟩
        · cases h
      · rename_i e l c e1 e2 hx
        split at h
        · cases h; exact .inl ⟨by simp [isNew, Prg.und, hta, htb, e1, e2], rfl⟩
        · cases h
      · rename_i e a len cap e1 e2 hx
        split at h
        · split at h
          · simp only [Option.map_eq_some_iff, Prod.mk.injEq] at h
            obtain ⟨_, _, _, rfl⟩ := h
            exact .inl ⟨by simp [isNew, Prg.und, hta, htb, e1, e2], rfl⟩
          · cases h
        · cases h
      · rename_i e1 e2 hx
        split at h
        · split at h
          · cases h; exact .inl ⟨by simp [isNew, Prg.und, hta, htb, e1, e2], rfl⟩
          · cases h
        · cases h
      · rename_i e1 e2 hx
        split at h
        · split at h
          · cases h; exact .inl ⟨by simp [isNew, Prg.und, hta, htb, e1, e2], rfl⟩
          · cases h
        · cases h
      · cases h
    · cases h
  · split at h
    · rename_i hu; cases h; exact .inr ⟨rfl, _, rfl, fun s2 h2 => by simp [aop, hu, h2]⟩
    · cases h
  · split at h
    · rename_i e k n k' m hu hl hc
      split at h
      · rename_i te hte
        split at h
        · rename_i hcond; cases h
          exact .inr ⟨rfl, _, rfl, fun s2 h2 => by simp only [aop, hu, hl, hc, hte, if_pos hcond, h2]⟩
        · cases h
      · cases h
    · cases h
  · split at h
    · rename_i b hu hx; cases h
      exact .inr ⟨rfl, _, rfl, fun s2 h2 => by simp [aop, hu, hx, h2]⟩
    · cases h
  · split at h
    · simp only [Option.map_eq_some_iff, Prod.mk.injEq] at h
      obtain ⟨_, _, _, rfl⟩ := h
      exact .inl ⟨rfl, rfl⟩
    · cases h
  · -- builtins
    rename_i bb args argTypes
    unfold builtinv at h
    split at h
    all_goals first
      | (cases he; done)
      | (simp only [Option.map_eq_some_iff, Prod.mk.injEq] at h; obtain ⟨_, _, _, rfl⟩ := h; exact .inl ⟨rfl, rfl⟩)
      | (cases h; done)
      | skip
    all_goals (repeat' split at h)
    all_goals first
      | (cases h; done)
      | (cases h; exact .inl ⟨rfl, rfl⟩)
      | (simp only [Option.map_eq_some_iff, Prod.mk.injEq] at h; obtain ⟨_, _, _, rfl⟩ := h; exact .inl ⟨rfl, rfl⟩)
  · cases h
def Bodied (P : Program) (f : Nat) : Prop := ∃ fn, P.funcs[f]? = some fn ∧ fn.body.isSome = true ∧ (fn.name == "runtime.NumGoroutine") = false
def CallRel (X : Prg) (P : Program) (f : Nat) (args : List Value) (s : St) (v : Value) (s' : St) : Prop :=
  ∀ φ (args' : Array Value) w, VRels φ args args'.toList → GlobOk X φ → SRel X φ s.get w → Fresh φ s.size s'.size →
      Calls P f args' w fun e w' => ∃ φ' v', e = .returned v' ∧ VRel φ' v v' ∧ SRel X φ' s'.get w' ∧ Step φ φ' s s' w w'
def EntryRel (X : Prg) (P : Program) (f : Nat) (args : List Value) (s : St) (v : Value) (s' : St) : Prop :=
  ∀ φ (args' : Array Value) w, VRels φ args args'.toList → SRel X φ s.get w → Fresh φ s.size s'.size →
      ∃ φ' v' w', (callFunc f args').run P w = .ok (.value v') w' ∧ VRel φ' v v' ∧ SRel X φ' s'.get w' ∧ Step φ φ' s s' w w'
def CallOk (X : Prg) (P : Program) (call : Caller) : Prop :=
  ∀ f args s v s', call f args s = some (v, s') → Keep s s' ∧ ((Bodied P f ∧ CallRel X P f args s v s') ∨ EntryRel X P f args s v s')
section
variable {X : Prg} {P : Program} (H : Sound X P) {call : Caller} (HC : CallOk X P call) {φ : Phi} {s : St} {w : World}
include H HC
theorem stepOp_sound {o : Oper} {ρ : Env} {a : Act} {v : Value} {s' : St} {Q : Exit → Act → World → Prop} (h : stepOp call X o ρ s = some (v, s')) (hopd : ∀ x ∈ o.op.operands, VRel φ (evo ρ x) (a.eval x)) (hg : GlobOk X φ) (hs : SRel X φ s.get w) (hf : Fresh φ s.size s'.size) (K : Act → World → Prop)
    (hK : ∀ φ' v' w', VRel φ' v v' → SRel X φ' s'.get w' → Step φ φ' s s' w w' → K (a.put o.dst v') w') : o.wp P a w K Q := by
  have quiet : aop X (evo ρ) o.op s = some (v, s') → o.wp P a w K Q := by
    intro h
    obtain ⟨φ', v', n, w', h1, h2, h3, h4, h5⟩ := aop_sound H o h hopd hs hf
    unfold Oper.wp
    rw [h1]
    rcases h2 with rfl | ⟨rfl, rfl⟩
    · exact hK φ' v' w' h3 h4 h5
    · exact hK φ' undef w' h3 h4 h5
  unfold stepOp at h
  split at h
  · rename_i f args argTypes hop
    split at h
    · rename_i k first captured hk
      have hboth := (HC _ _ _ _ _ h).2
      have hf1 := hopd f (by rw [hop]; simp [Op.operands, Call.operands])
      rw [hk] at hf1
      generalize hw : a.eval f = fv at hf1
      cases hf1 with | func fn0 f1 c1 f1' c1' hfirst hcap =>
      have hargs : VRels φ (first.toList ++ args.toList.map (evo ρ) ++ captured.toList) (f1' ++ args.map a.eval ++ c1').toList := by
        simp only [Array.toList_append, Array.toList_map]
        exact (hfirst.append (VRels.map _ _ _ fun x hx => hopd x (by rw [hop]; simp [Op.operands, Call.operands]; exact .inr (by simpa using hx)))).append hcap
      rcases hboth with ⟨⟨fn, hfn, hbody, hname⟩, hcall⟩ | hent
      rotate_left
      · obtain ⟨φ', v', w', h1, h2, h3, h4⟩ := hent φ _ w hargs hs hf
        have hrun : (execOp a.eval o).run P w = .ok (.value v') w' := by
          simp only [execOp, hop, resolve, Deferred.ofValue, hw, Sem.run_bind, Sem.run_pure, Result.andThen_ok, invoke]
          exact h1
        unfold Oper.wp
        rw [hrun]
        exact hK φ' v' w' h2 h3 h4
      have hc := hcall φ _ w hargs hg hs hf
      have hb : fn.body.isNone = false := by cases hx : fn.body <;> simp_all
      have hrun : (execOp a.eval o).run P w = .ok (.enter k (f1' ++ args.map a.eval ++ c1')) w := by
        simp only [execOp, hop, resolve, Deferred.ofValue, hw, Sem.run_bind, Sem.run_pure, Result.andThen_ok, invoke]
        have q1 : fn.name ≠ "runtime.NumGoroutine" := by simpa using hname
        have q2 : fn.body ≠ none := by intro q; rw [q] at hb; cases hb
        simp [callFunc, hfn, q1, q2]
      unfold Oper.wp
      rw [hrun]
      refine hc.mono ?_
      rintro e w' ⟨φ', v', rfl, h3, h4, h5⟩
      exact hK φ' v' w' h3 h4 h5
    · cases h
  · rename_i hop
    exact quiet h
omit H in
theorem stepOp_keep {o : Oper} {ρ : Env} {v : Value} {s s' : St} (h : stepOp call X o ρ s = some (v, s')) : Keep s s' := by
  unfold stepOp at h
  split at h
  · split at h
    · exact (HC _ _ _ _ _ h).1
    · cases h
  · exact aop_keep h
omit H in
theorem runOps_keep {all : Array Oper} : ∀ (ops : List Oper) (ρ : Env) (s : St) (ρ' : Env) (s' : St), runOps call X all ops ρ s = some (ρ', s') → Keep s s'
  | [], ρ, s, ρ', s', h => by cases h; exact Keep.refl _
  | o :: ops, ρ, s, ρ', s', h => by
    simp only [runOps] at h
    split at h
    · split at h
      · rename_i v s1 h1
        exact (stepOp_keep HC h1).trans (runOps_keep ops _ _ _ _ h)
      · cases h
    · exact runOps_keep ops _ _ _ _ h
omit H HC in
theorem Fresh.sub {φ : Phi} {lo hi lo' hi' : Nat} (h : Fresh φ lo hi) (h1 : lo ≤ lo') (h2 : hi' ≤ hi) : Fresh φ lo' hi' := fun b e hb hb' => h b e (by omega) (by omega)
theorem runOps_sound {n : Nat} {all : Array Oper} {Q : Exit → Act → World → Prop} : ∀ (ops : List Oper) (ρ : Env) (s : St) (φ : Phi) (a : Act) (w : World) (ρ' : Env) (s' : St), runOps call X all ops ρ s = some (ρ', s') → (∀ o ∈ ops, operOk X n o = true) → n ≤ a.tmps.size →
    EnvRel φ ρ a → GlobOk X φ → SRel X φ s.get w → Fresh φ s.size s'.size →
    (∀ φ' a' w', EnvRel φ' ρ' a' → a'.tmps.size = a.tmps.size → a'.defers = a.defers → SRel X φ' s'.get w' → Step φ φ' s s' w w' → Q .normal a' w') → wpList P all Q ops a w
  | [], ρ, s, φ, a, w, ρ', s', h, ho, hn, hr, hg, hs, hf, hQ => by
    cases h
    exact hQ φ a w hr rfl rfl hs (Step.refl _ _ _)
  | o :: ops, ρ, s, φ, a, w, ρ', s', h, ho, hn, hr, hg, hs, hf, hQ => by
    simp only [runOps] at h
    have hoo := ho o (by simp)
    have hd : ∀ i, o.dst = some i → i < a.tmps.size := fun i hi => by
      unfold operOk at hoo
      rw [Bool.and_eq_true] at hoo
      have := hoo.2
      rw [hi] at this
      exact Nat.lt_of_lt_of_le (of_decide_eq_true this) hn
    unfold wpList
    rw [wanted_rel all o (fun _ _ d _ _ => hr d)]
    split at h
    · rename_i hw
      rw [if_pos hw]
      split at h
      · rename_i v s1 h1
        have hsz := (runOps_keep HC _ _ _ _ _ h).1
        refine .inl (stepOp_sound H HC h1 (opds_rel hr hg hoo) hg hs (hf.sub (Nat.le_refl _) hsz) _ fun φ' v' w' hv hs' hst => ?_)
        refine runOps_sound ops _ _ φ' _ w' ρ' s' h (fun o' ho' => ho o' (by simp [ho'])) (by rw [put_size]; exact hn) (put_rel (hr.mono hst.le) hv hd) (hg.mono hst.le) hs' (hst.fresh hf) fun φ2 a2 w2 q1 q2 q3 q4 q5 => ?_
        exact hQ φ2 a2 w2 q1 (by rw [q2, put_size]) (by rw [q3, put_defers]) q4 (hst.trans q5 hf)
      · cases h
    · rename_i hw
      rw [if_neg hw]
      refine runOps_sound ops _ _ φ _ w ρ' s' h (fun o' ho' => ho o' (by simp [ho'])) (by rw [put_size]; exact hn) (put_rel hr (.tuple _ _ .nil) hd) hg hs hf fun φ2 a2 w2 q1 q2 q3 q4 q5 => ?_
      exact hQ φ2 a2 w2 q1 (by rw [q2, put_size]) (by rw [q3, put_defers]) q4 q5
end
end Go.Proofs.Yticllcglldbffaa.Ab
end
section
namespace Go.Proofs.Yticllcglldbffaa.Ab
theorem aeq_both : ∀ (n : Nat), (∀ a b, aeq n a b = true → a = b) ∧ (∀ xs ys, aeq.aeqs n xs ys = true → xs = ys) := by
  intro n
  induction n with
  | zero =>
    constructor
    · intro a b h
      cases a <;> cases b <;> simp [aeq] at h <;> first
        | (simp_all; done)
        | (congr 1; apply ByteArray.ext; exact h)
        | rfl
    · intro xs ys h
      cases xs <;> cases ys <;> simp [aeq.aeqs] at h
      rfl
  | succ n ih =>
    constructor
    · intro a b h
      cases a <;> cases b <;> simp [aeq] at h <;> first
        | (simp_all; done)
        | (congr 1; apply ByteArray.ext; exact h)
        | rfl
        | (congr 1; exact Array.toList_inj.1 (ih.2 _ _ h))
        | (obtain ⟨rfl, h1, h2⟩ := h
           rw [Array.toList_inj.1 (ih.2 _ _ h1), Array.toList_inj.1 (ih.2 _ _ h2)])
        | (obtain ⟨rfl, h1⟩ := h
           rw [ih.1 _ _ h1])
    · intro xs ys h
      cases xs <;> cases ys <;> simp [aeq.aeqs] at h
      · rfl
      · rw [ih.1 _ _ h.1, ih.2 _ _ h.2]
theorem aeq_eq {n : Nat} {a b : Value} (h : aeq n a b = true) : a = b := (aeq_both n).1 a b h
theorem mem_iota : ∀ {n i : Nat}, i ∈ iota n ↔ i < n
  | 0, i => by simp [iota]
  | n + 1, i => by simp only [iota, List.mem_append, mem_iota, List.mem_singleton]; omega
def befOf (acc : List Nat) (o : Oper) : Nat := (o.after.toList.filter plainEdge).foldl (fun m e => m ||| 2 ^ e.on ||| acc.getD e.on 0) 0
theorem befs_eq (ops : List Oper) : befs ops = ops.foldl (fun acc o => acc ++ [befOf acc o]) [] := rfl
theorem befs_go : ∀ (ops : List Oper) (acc : List Nat), (ops.foldl (fun acc o => acc ++ [befOf acc o]) acc).length = acc.length + ops.length ∧ (ops.foldl (fun acc o => acc ++ [befOf acc o]) acc).take acc.length = acc ∧
    ∀ j o, ops[j]? = some o → (ops.foldl (fun acc o => acc ++ [befOf acc o]) acc).getD (acc.length + j) 0 = befOf ((ops.foldl (fun acc o => acc ++ [befOf acc o]) acc).take (acc.length + j)) o
  | [], acc => by simp
  | o :: ops, acc => by
    obtain ⟨h1, h2, h3⟩ := befs_go ops (acc ++ [befOf acc o])
    simp only [List.foldl_cons]
    simp only [List.length_append, List.length_singleton] at h1 h2 h3
    have h4 : (ops.foldl (fun acc o => acc ++ [befOf acc o]) (acc ++ [befOf acc o])).take acc.length = acc := by
      have := congrArg (List.take acc.length) h2
      rw [List.take_take, Nat.min_eq_left (by omega)] at this
      rw [this]; simp
    refine ⟨by simp only [h1, List.length_cons]; omega, h4, fun j p hj => ?_⟩
    cases j with
    | zero =>
      simp only [List.getElem?_cons_zero, Option.some.injEq] at hj
      subst hj
      rw [Nat.add_zero, h4]
      have := congrArg (fun l => l.getD acc.length 0) h2
      simp only [List.getD_eq_getElem?_getD, List.getElem?_take, if_pos (Nat.lt_succ_self _)] at this
      simp only [List.getD_eq_getElem?_getD]
      rw [this]; simp
    | succ j =>
      have := h3 j p (by simpa using hj)
      rw [show acc.length + (j + 1) = acc.length + 1 + j by omega]
      exact this
theorem bef_bits (acc : List Nat) (i : Nat) : ∀ (l : List Edge) (m : Nat), (l.foldl (fun m e => m ||| 2 ^ e.on ||| acc.getD e.on 0) m).testBit i = true → m.testBit i = true ∨ ∃ e ∈ l, e.on = i ∨ (acc.getD e.on 0).testBit i = true
  | [], m, h => .inl h
  | e :: l, m, h => by
    rcases bef_bits acc i l _ h with h1 | ⟨e', he', h1⟩
    · rw [Nat.testBit_or, Nat.testBit_or, Nat.testBit_two_pow] at h1
      simp only [Bool.or_eq_true, decide_eq_true_eq] at h1
      rcases h1 with (h1 | h1) | h1
      · exact .inl h1
      · exact .inr ⟨e, by simp, .inl h1⟩
      · exact .inr ⟨e, by simp, .inr h1⟩
    · exact .inr ⟨e', by simp [he'], h1⟩
theorem befs_step {ops : List Oper} {j i : Nat} {o : Oper} (ho : ops[j]? = some o) (h : ((befs ops).getD j 0).testBit i = true) :
    ∃ e ∈ o.after.toList, plainEdge e = true ∧ (e.on = i ∨ (e.on < j ∧ ((befs ops).getD e.on 0).testBit i = true)) := by
  obtain ⟨_, _, h3⟩ := befs_go ops []
  have := h3 j o ho
  simp only [List.length_nil, Nat.zero_add] at this
  rw [befs_eq, this] at h
  rcases bef_bits _ i _ _ h with h1 | ⟨e, he, h1⟩
  · simp at h1
  · rw [List.mem_filter] at he
    refine ⟨e, he.1, he.2, ?_⟩
    rcases h1 with h1 | h1
    · exact .inl h1
    · right
      by_cases hl : e.on < j
      · refine ⟨hl, ?_⟩
        rw [befs_eq]
        rw [List.getD_eq_getElem?_getD, List.getElem?_take, if_pos hl, ← List.getD_eq_getElem?_getD] at h1
        exact h1
      · rw [List.getD_eq_getElem?_getD, List.getElem?_take, if_neg hl] at h1
        simp at h1
structure Stat (X : Prg) (ops : List Oper) : Prop where
  up : ∀ (i : Nat) (o : Oper), ops[i]? = some o → ∀ e ∈ o.after.toList, plainEdge e = true → e.on < i
  nosel : ∀ (i : Nat) (o : Oper) (cs : Array SelectCase) (b : Bool), ops[i]? = some o → o.op ≠ .select cs b
  looks : ∀ (i j : Nat) (o p : Oper) (d : Nat), ops[i]? = some o → ops[j]? = some p → j ≠ i → p.dst = some d → d ∈ looks ops o → ((befs ops).getD i 0).testBit j = true ∨ ((befs ops).getD j 0).testBit i = true
  dst : ∀ (i j : Nat) (o p : Oper) (d : Nat), ops[i]? = some o → ops[j]? = some p → j ≠ i → p.dst = some d → o.dst ≠ some d
  eff : ∀ (i j : Nat) (o p : Oper), ops[i]? = some o → ops[j]? = some p → j ≠ i → isEff o.op = true → isEff p.op = true → ((befs ops).getD i 0).testBit j = true ∨ ((befs ops).getD j 0).testBit i = true
  new : ∀ (i j : Nat) (o p : Oper), ops[i]? = some o → ops[j]? = some p → j < i → isEff o.op = true → isNew X p.op = true → ((befs ops).getD i 0).testBit j = true
theorem readsOk_use {X : Prg} {ops : List Oper} {T : Env} {tr : List (Env × St)} (h : readsOk X ops T tr = true) {i j : Nat} {o p : Oper} {at_ : Env × St} (hi : ops[i]? = some o) (ht : tr[i]? = some at_) (hj : ops[j]? = some p)
    (he : isEff o.op = false) (hn : isNew X o.op = false) (hp : isEff p.op = true) (hb1 : ((befs ops).getD i 0).testBit j = false) (hb2 : ((befs ops).getD j 0).testBit i = false) (hw : wantedE ops.toArray o at_.1 = true) :
    sameAt X T o at_.1 (if j < i then tr[j]? else tr[j + 1]?) = true := by
  have hij := (List.getElem?_eq_some_iff.1 hi).1
  have hjl := (List.getElem?_eq_some_iff.1 hj).1
  have hm : j ∈ effsOf ops := by
    unfold effsOf
    rw [List.mem_filter]
    exact ⟨mem_iota.2 hjl, by rw [hj]; exact hp⟩
  unfold readsOk at h
  rw [Bool.or_eq_true] at h
  rcases h with h | h
  · rw [List.isEmpty_iff] at h
    rw [h] at hm; cases hm
  · have h1 := List.all_eq_true.1 h i (mem_iota.2 hij)
    rw [hi, ht] at h1
    simp only [he, hn, Bool.false_or] at h1
    have h2 := List.all_eq_true.1 h1 j hm
    simpa only [hb1, hb2, hw, Bool.false_or, Bool.not_true] using h2
theorem stat_of {X : Prg} {ops : List Oper} (h : statOk X ops = true) : Stat X ops := by
  unfold statOk at h
  have lt : ∀ {i : Nat} {o : Oper}, ops[i]? = some o → i < ops.length := fun h => (List.getElem?_eq_some_iff.1 h).1
  simp only [List.all_eq_true] at h
  have base : ∀ (i : Nat) (o : Oper), ops[i]? = some o → _ := fun i o ho => by
    have := h i (mem_iota.2 (lt ho))
    rw [ho] at this
    simp only [Bool.and_eq_true, List.all_eq_true] at this
    exact this
  have pair : ∀ (i j : Nat) (o p : Oper), ops[i]? = some o → ops[j]? = some p → j ≠ i → _ := fun i j o p ho hp hne => by
    have := (base i o ho).2 j (mem_iota.2 (lt hp))
    rw [hp] at this
    have hb : (j == i) = false := by simpa using hne
    rw [hb] at this
    simp only [Bool.false_or, Bool.and_eq_true] at this
    exact this
  refine ⟨?_, ?_, ?_, ?_, ?_, ?_⟩
  · intro i o ho e he hp
    have := (base i o ho).1.1 e he
    rw [hp] at this
    simpa using this
  · intro i o cs b ho hsel
    have := (base i o ho).1.2
    rw [hsel] at this
    cases this
  · intro i j o p d ho hp hne hd hl
    have := (pair i j o p ho hp hne).1.1.1
    rw [hd] at this
    have hc : (Ab.looks ops o).contains d = true := List.contains_iff_mem.2 hl
    simp only [hc, Bool.not_true, Bool.false_or, Bool.or_eq_true] at this
    exact this
  · intro i j o p d ho hp hne hd ho2
    have := (pair i j o p ho hp hne).1.1.2
    rw [hd, ho2] at this
    simp at this
  · intro i j o p ho hp hne h1 h2
    have := (pair i j o p ho hp hne).1.2
    rw [h1, h2] at this
    simpa using this
  · intro i j o p ho hp hne h1 h2
    have := (pair i j o p ho hp (by omega)).2
    rw [h1, h2] at this
    simpa [hne] using this
theorem bit_lt {X : Prg} {ops : List Oper} (hs : Stat X ops) : ∀ (i j : Nat), ((befs ops).getD i 0).testBit j = true → i < ops.length → j < i := by
  intro i
  induction i using Nat.strongRecOn with
  | _ i ih =>
    intro j h hi
    obtain ⟨e, he, hp, h1⟩ := befs_step (List.getElem?_eq_getElem hi) h
    have := hs.up i _ (List.getElem?_eq_getElem hi) e he hp
    rcases h1 with h1 | ⟨h1, h2⟩
    · omega
    · have := ih e.on h1 j h2 (by omega)
      omega
theorem bit_closed {X : Prg} {ops : List Oper} (hs : Stat X ops) {b : Nat → Bool} (hc : ∀ (j : Nat) (o : Oper), ops[j]? = some o → b j = true → ∀ e ∈ o.after.toList, plainEdge e = true → b e.on = true) :
    ∀ (i j : Nat), ((befs ops).getD i 0).testBit j = true → i < ops.length → b i = true → b j = true := by
  intro i
  induction i using Nat.strongRecOn with
  | _ i ih =>
    intro j h hi hb
    obtain ⟨e, he, hp, h1⟩ := befs_step (List.getElem?_eq_getElem hi) h
    have hbe := hc i _ (List.getElem?_eq_getElem hi) hb e he hp
    rcases h1 with h1 | ⟨h1, h2⟩
    · rw [← h1]; exact hbe
    · exact ih e.on h1 j h2 (by omega) hbe
structure Tr2 (call : Caller) (X : Prg) (all : Array Oper) (L : List Oper) (ρ : Env) (s : St) (T : Env) (s' : St) (tr : List (Env × St)) (R : Nat → Env) (S : Nat → St) : Prop where
  r0 : R 0 = ρ
  s0 : S 0 = s
  rn : R L.length = T
  sn : S L.length = s'
  tr : ∀ i, i ≤ L.length → tr[i]? = some (R i, S i)
  step : ∀ i o, L[i]? = some o → (wantedE all o (R i) = true ∧ ∃ v, stepOp call X o (R i) (S i) = some (v, S (i + 1)) ∧ R (i + 1) = (R i).put o.dst v) ∨
    (wantedE all o (R i) = false ∧ S (i + 1) = S i ∧ R (i + 1) = (R i).put o.dst undef)
theorem trace_spec {call : Caller} {X : Prg} {all : Array Oper} : ∀ (L : List Oper) (ρ : Env) (s : St) (T : Env) (s' : St), runOps call X all L ρ s = some (T, s') → ∃ R S, Tr2 call X all L ρ s T s' (trace call X all L ρ s) R S
  | [], ρ, s, T, s', h => by
    cases h
    refine ⟨fun _ => ρ, fun _ => s, rfl, rfl, rfl, rfl, fun i hi => ?_, fun i o h => by simp at h⟩
    obtain rfl : i = 0 := by simpa using hi
    rfl
  | o :: L, ρ, s, T, s', h => by
    have go : ∀ (ρ1 : Env) (s1 : St), runOps call X all L ρ1 s1 = some (T, s') → trace call X all (o :: L) ρ s = (ρ, s) :: trace call X all L ρ1 s1 →
        ((wantedE all o ρ = true ∧ ∃ v, stepOp call X o ρ s = some (v, s1) ∧ ρ1 = ρ.put o.dst v) ∨ (wantedE all o ρ = false ∧ s1 = s ∧ ρ1 = ρ.put o.dst undef)) → ∃ R S, Tr2 call X all (o :: L) ρ s T s' (trace call X all (o :: L) ρ s) R S := by
      intro ρ1 s1 h1 htr hst
      obtain ⟨R, S, h2⟩ := trace_spec L ρ1 s1 T s' h1
      refine ⟨fun i => match i with | 0 => ρ | i + 1 => R i, fun i => match i with | 0 => s | i + 1 => S i, rfl, rfl, h2.rn, h2.sn, fun i hi => ?_, fun i p hp => ?_⟩
      · rw [htr]
        cases i with
        | zero => rfl
        | succ i => simpa using h2.tr i (by simpa using hi)
      · cases i with
        | zero =>
          simp only [List.getElem?_cons_zero, Option.some.injEq] at hp
          subst hp
          simp only [h2.r0, h2.s0]
          exact hst
        | succ i => exact h2.step i p (by simpa using hp)
    simp only [runOps] at h
    split at h
    · rename_i hw
      split at h
      · rename_i v s1 h1
        exact go _ s1 h (by simp only [trace, hw, if_true, h1]) (.inl ⟨hw, v, h1, rfl⟩)
      · cases h
    · rename_i hw
      exact go _ s h (by simp only [trace, hw, if_false, Bool.false_eq_true]) (.inr ⟨by simpa using hw, rfl, rfl⟩)
end Go.Proofs.Yticllcglldbffaa.Ab
end
