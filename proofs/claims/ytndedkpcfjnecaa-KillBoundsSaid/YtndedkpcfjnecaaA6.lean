/- Memory: reading, writing, making, growing. -/
import Derived.Test.YtndedkpcfjnecaaA5
set_option linter.unusedSimpArgs false
set_option linter.unusedVariables false
namespace Go.Proofs.Ytndedkpcfjnecaa.Ab

def Phi.ext (φ : Phi) (b e : Nat) (l : Loc) : Phi := fun b' e' => if b' = b ∧ e' = e then some l else φ b' e'
theorem Phi.ext_same (φ : Phi) (b e : Nat) (l : Loc) : φ.ext b e l b e = some l := by simp [Phi.ext]
theorem Phi.ext_of {φ : Phi} {b e : Nat} {l : Loc} {b' e' : Nat} {l' : Loc} (h : φ.ext b e l b' e' = some l') : (b' = b ∧ e' = e ∧ l' = l) ∨ φ b' e' = some l' := by
  unfold Phi.ext at h
  split at h
  · rename_i hc; cases h; exact .inl ⟨hc.1, hc.2, rfl⟩
  · exact .inr h
theorem Phi.le_ext {φ : Phi} {b e : Nat} {l : Loc} (h : φ b e = none) : φ.le (φ.ext b e l) := by
  intro b' e' l' h'
  unfold Phi.ext
  split
  · rename_i hc; rw [hc.1, hc.2, h] at h'; cases h'
  · exact h'

section
variable {X : Prg} {P : Program} {φ : Phi} {s : St} {w : World}

theorem rd_rel (hs : SRel X φ s.get w) {a : Addr} {n : Nat} {cs : List Value} {l : Loc} (h : s.rd a n = some cs) (hl : φ a.block (ep a) = some l) :
    cs.length = n ∧ ∃ cs', VRels φ cs cs' ∧ ∀ i v', cs'[i]? = some v' → w.cell? ⟨l.c, l.off + a.off + i, none⟩ = some v' := by
  unfold St.rd at h
  split at h
  · rename_i all hb
    split at h
    · rename_i hc; cases h
      have ho := hs.obj _ _ _ hl _ hb hc.1
      refine ⟨by simp; omega, (List.range n).map fun i => (w.cell? ⟨l.c, l.off + a.off + i, none⟩).getD undef, VRels.of_get _ _ (by simp; omega) fun i v hv => ?_, fun i v' hv => ?_⟩
      · rw [List.getElem?_take] at hv
        split at hv
        · rename_i hi
          rw [List.getElem?_drop] at hv
          obtain ⟨v', h1, h2⟩ := ho _ _ hv
          refine ⟨v', ?_, h2⟩
          rw [← Nat.add_assoc] at h1
          simp [hi, h1]
        · cases hv
      · simp only [List.getElem?_map, Option.map_eq_some_iff] at hv
        obtain ⟨j, hj, rfl⟩ := hv
        obtain ⟨hj1, hj2⟩ := List.getElem?_eq_some_iff.1 hj
        simp at hj1 hj2
        subst hj2
        have : i < all.length - a.off := by omega
        obtain ⟨v', h1, h2⟩ := ho (a.off + i) all[a.off + i] (by simp)
        rw [← Nat.add_assoc] at h1
        simp [h1]
    · cases h
  · rename_i r hb
    split at h
    · rename_i hc; cases h
      obtain ⟨h0, arr, fr, h1, h2, h3, h4, h5, h6⟩ := (hs.obj _ _ _ hl _ hb).2 hc.1
      refine ⟨by simp; omega, ((arr.toList.take r.cs.length).drop a.off).take n, (h6.drop _).take _, fun i v' hv => ?_⟩
      rw [List.getElem?_take] at hv
      split at hv
      · rw [List.getElem?_drop, List.getElem?_take] at hv
        split at hv
        · simp only [World.cell?, h1, h0, Nat.zero_add]
          simpa using hv
        · cases hv
      · cases hv
    · cases h
  · cases h

theorem load_run (hs : SRel X φ s.get w) {a : Addr} {n : Nat} {cs : List Value} {l : Loc} (h : s.rd a n = some cs) (hl : φ a.block (ep a) = some l) :
    ∃ cs', VRels φ cs cs' ∧ (∀ w' : World, w'.heap = w.heap → (loadCells ⟨l.c, l.off + a.off, none⟩ n).run P w' = .ok cs'.toArray w') ∧ ∀ i v', cs'[i]? = some v' → w.cell? ⟨l.c, l.off + a.off + i, none⟩ = some v' := by
  obtain ⟨h1, cs', h2, h3⟩ := rd_rel hs h hl
  refine ⟨cs', h2, fun w' hw => ?_, h3⟩
  have hlen := h2.length
  have := run_loadCells_list (P := P) w' ⟨l.c, l.off + a.off, none⟩ cs' (fun j v hv => by
    have h4 := h3 j v hv
    rw [add_none]
    unfold World.cell? at h4 ⊢
    rw [hw]; exact h4)
  rwa [← hlen, h1] at this

/-- A row of the run's own is written: the same epoch. -/
theorem upd_own (hs : SRel X φ s.get w) {b : Nat} {r : Row} {l : Loc} {arr arr2 : Array Value} {fr : Nat × Nat} {cs2 : List Value} (hb : s.get b = some (.own r)) (hl : φ b r.ep = some l) (ha : w.heap[l.c]? = some (.cells arr r.elem fr))
    (hsz : arr2.size = arr.size) (hln : cs2.length ≤ arr2.size) (hv : VRels φ cs2 (arr2.toList.take cs2.length)) :
    SRel X φ (s.set b (.own { r with cs := cs2 })).get (w.setRow l.c arr2) ∧ Step φ φ s (s.set b (.own { r with cs := cs2 })) w (w.setRow l.c arr2) := by
  have hm : isMut (s.get b) = true := by rw [hb]; rfl
  obtain ⟨h0, arr', fr', h1, h2, h3, h4, h5, h6⟩ := (hs.obj _ _ _ hl _ hb).2 rfl
  rw [ha] at h1; cases h1
  constructor
  · refine ⟨fun b' e' l' hb' o ho => ?_, fun b' e' l' hb' => ?_, fun b1 e1 l1 b2 e2 l2 k1 k2 hne hmu => ?_⟩
    · rw [St.get_set hb] at ho
      split at ho
      · rename_i heq; subst heq
        cases ho
        refine ⟨(hs.obj _ _ _ hb' _ hb).1, fun he => ?_⟩
        simp only at he
        subst he
        rw [hl] at hb'; cases hb'
        exact ⟨h0, arr2, fr, setRow_heap _ _ _ _ _ _ ha, by rw [hsz]; exact h2, h3, h4, hln, hv⟩
      · rename_i hne
        exact (hs.obj _ _ _ hb' _ ho).world (fun _ _ _ h => h) (setRow_other _ _ _ _ (fun h => (hs.sep _ _ _ _ _ _ hl hb' hne hm) h.symm))
    · rw [setRow_size]; exact hs.lt _ _ _ hb'
    · refine hs.sep _ _ _ _ _ _ k1 k2 hne ?_
      rw [St.get_set hb] at hmu
      split at hmu
      · rename_i heq; subst heq; exact hm
      · exact hmu
  · refine ⟨Nat.le_refl _, fun _ _ _ h => h, fun _ _ _ h => .inl h, fun b' _ => ?_, rfl, rfl, rfl, by rw [setRow_size]; exact Nat.le_refl _, fun c _ hc => ?_⟩
    · rw [St.get_set hb]
      split
      · rename_i heq; subst heq; rw [hm]; rfl
      · rfl
    · refine setRow_other _ _ _ _ fun h => ?_
      have := hc b r.ep l hl h.symm
      rw [hm] at this; cases this

theorem store_run (hs : SRel X φ s.get w) {a : Addr} {vs vs' : List Value} {s' : St} {l : Loc} (h : s.wr a vs = some s') (hl : φ a.block (ep a) = some l) (hv : VRels φ vs vs') :
    ∃ w', (storeCells ⟨l.c, l.off + a.off, none⟩ vs').run P w = .ok () w' ∧ SRel X φ s'.get w' ∧ Step φ φ s s' w w' := by
  unfold St.wr at h
  split at h
  · rename_i r hb
    split at h
    · rename_i hc
      obtain ⟨hc1, hc2, hc3, hc4, hc5⟩ := hc
      cases h
      rw [hc1] at hl
      obtain ⟨h0, arr, fr, h1, h2, h3, h4, h5, h6⟩ := (hs.obj _ _ _ hl _ hb).2 rfl
      have hlen := hv.length
      have hf := h4 hc4
      have hst := run_storeCells_atF P l.c a.off r.elem fr vs' 0 arr w h1 (by omega) (by omega) (hv.oneCell hc5)
      simp only [Nat.add_zero] at hst
      refine ⟨_, by rw [h0, Nat.zero_add]; exact hst, ?_⟩
      refine upd_own hs hb hl h1 (by simp; omega) (by simp [over]; omega) ?_
      have e : (List.take a.off arr.toList ++ vs' ++ List.drop (a.off + vs'.length) arr.toList).toArray.toList.take (over r.cs a.off vs).length = over (arr.toList.take r.cs.length) a.off vs' := by
        have e1 : (over r.cs a.off vs).length = r.cs.length := by simp [over]; omega
        rw [e1]
        unfold over
        simp only [List.take_append, List.length_take, List.length_append, Array.length_toList, List.take_take, List.drop_take]
        congr 1
        · congr 1
          · congr 1; omega
          · rw [List.take_of_length_le]; omega
        · congr 1; omega
      rw [e]
      exact h6.over hv _
    · cases h
  · cases h

/-- Something new in the heap. -/
theorem new_run (hs : SRel X φ s.get w) {o : AObj} {o' : Obj} {w' : World} {l : Loc} (hf : Fresh φ s.size (s.size + 1)) (hw : w'.heap = w.heap.push o') (h1 : w'.os = w.os) (h2 : w'.tape = w.tape) (h3 : w'.output = w.output)
    (hl : l.c = w.heap.size) (ho : ORel X (φ.ext s.size 0 l) w' 0 l o) :
    SRel X (φ.ext s.size 0 l) (s.push o).get w' ∧ Step φ (φ.ext s.size 0 l) s (s.push o) w w' := by
  have hn : φ s.size 0 = none := hf _ _ (Nat.le_refl _) (by omega)
  have hle := Phi.le_ext (l := l) hn
  have old : ∀ c, c < w.heap.size → w'.heap[c]? = w.heap[c]? := by
    intro c hc
    rw [hw, Array.getElem?_push, if_neg (by omega)]
  constructor
  · refine ⟨fun b' e' l' hb' o1 ho1 => ?_, fun b' e' l' hb' => ?_, fun b1 e1 l1 b2 e2 l2 k1 k2 hne hmu => ?_⟩
    · rw [St.get_push] at ho1
      rcases Phi.ext_of hb' with ⟨rfl, rfl, rfl⟩ | hb2
      · rw [if_pos rfl] at ho1; cases ho1; exact ho
      · split at ho1
        · rename_i heq; rw [← heq, hf _ _ (Nat.le_refl _) (by omega)] at hb2; cases hb2
        · exact (hs.obj _ _ _ hb2 _ ho1).world hle (old _ (hs.lt _ _ _ hb2))
    · rw [hw, Array.size_push]
      rcases Phi.ext_of hb' with ⟨rfl, rfl, rfl⟩ | hb2
      · omega
      · have := hs.lt _ _ _ hb2; omega
    · rcases Phi.ext_of k1 with ⟨rfl, rfl, rfl⟩ | q1
      · rcases Phi.ext_of k2 with ⟨rfl, rfl, rfl⟩ | q2
        · exact absurd rfl hne
        · have := hs.lt _ _ _ q2; omega
      · rcases Phi.ext_of k2 with ⟨rfl, rfl, rfl⟩ | q2
        · have := hs.lt _ _ _ q1; omega
        · refine hs.sep _ _ _ _ _ _ q1 q2 hne ?_
          rw [St.get_push] at hmu
          split at hmu
          · rename_i heq; rw [← heq, hf _ _ (Nat.le_refl _) (by omega)] at q1; cases q1
          · exact hmu
  · refine ⟨by simp [St.size_push], hle, fun b e l1 hb => ?_, fun b hb => ?_, h1, h2, h3, by rw [hw, Array.size_push]; omega, fun c hc _ => old c hc⟩
    · rcases Phi.ext_of hb with ⟨rfl, rfl, rfl⟩ | hb
      · exact .inr (.inl ⟨Nat.le_refl _, by simp [St.size_push], by omega⟩)
      · exact .inl hb
    · rw [St.get_push, if_neg]
      simp only [St.size_push] at hb
      omega

/-- A row that grows at its end: where it lies, or moved. -/
theorem grow_run (hs : SRel X φ s.get w) {b : Nat} {r : Row} {l l2 : Loc} {w' : World} {cs2 : List Value} (hb : s.get b = some (.own r)) (hl : φ b r.ep = some l) (h1 : w'.os = w.os) (h2 : w'.tape = w.tape) (h3 : w'.output = w.output)
    (hsz : w.heap.size ≤ w'.heap.size) (hc2 : l2.c < w'.heap.size) (hc : l2.c = l.c ∨ w.heap.size ≤ l2.c) (hold : ∀ c, c < w.heap.size → c ≠ l.c → w'.heap[c]? = w.heap[c]?)
    (ho : ORel X (φ.ext b (r.ep + 1) l2) w' (r.ep + 1) l2 (.own { r with cs := cs2, ep := r.ep + 1 })) :
    SRel X (φ.ext b (r.ep + 1) l2) (s.set b (.own { r with cs := cs2, ep := r.ep + 1 })).get w' ∧ Step φ (φ.ext b (r.ep + 1) l2) s (s.set b (.own { r with cs := cs2, ep := r.ep + 1 })) w w' := by
  have hm : isMut (s.get b) = true := by rw [hb]; rfl
  have hn : φ b (r.ep + 1) = none := by
    cases h : φ b (r.ep + 1) with
    | none => rfl
    | some l' => have := (hs.obj _ _ _ h _ hb).1; omega
  have hle := Phi.le_ext (l := l2) hn
  have hlc := hs.lt _ _ _ hl
  constructor
  · refine ⟨fun b' e' l' hb' o1 ho1 => ?_, fun b' e' l' hb' => ?_, fun b1 e1 l1 b2 e2 l3 k1 k2 hne hmu => ?_⟩
    · rw [St.get_set hb] at ho1
      rcases Phi.ext_of hb' with ⟨rfl, rfl, rfl⟩ | hb2
      · rw [if_pos rfl] at ho1; cases ho1; exact ho
      · split at ho1
        · rename_i heq; subst heq
          cases ho1
          have := (hs.obj _ _ _ hb2 _ hb).1
          exact ⟨by simp only; omega, fun he => by simp only at he; omega⟩
        · rename_i hne
          exact (hs.obj _ _ _ hb2 _ ho1).world hle (hold _ (hs.lt _ _ _ hb2) (fun h => (hs.sep _ _ _ _ _ _ hl hb2 hne hm) h.symm))
    · rcases Phi.ext_of hb' with ⟨rfl, rfl, rfl⟩ | hb2
      · exact hc2
      · have := hs.lt _ _ _ hb2; omega
    · have hmu' : isMut (s.get b1) = true := by
        rw [St.get_set hb] at hmu
        split at hmu
        · rename_i heq; subst heq; exact hm
        · exact hmu
      rcases Phi.ext_of k1 with ⟨rfl, rfl, rfl⟩ | q1
      · rcases Phi.ext_of k2 with ⟨rfl, rfl, rfl⟩ | q2
        · exact absurd rfl hne
        · have := hs.lt _ _ _ q2
          have := hs.sep _ _ _ _ _ _ hl q2 hne hm
          rcases hc with hc | hc <;> omega
      · rcases Phi.ext_of k2 with ⟨rfl, rfl, rfl⟩ | q2
        · have := hs.lt _ _ _ q1
          have := hs.sep _ _ _ _ _ _ q1 hl hne hmu'
          rcases hc with hc | hc <;> omega
        · exact hs.sep _ _ _ _ _ _ q1 q2 hne hmu'
  · refine ⟨Nat.le_refl _, hle, fun b' e l1 hb' => ?_, fun b' _ => ?_, h1, h2, h3, hsz, fun c hcc hcm => ?_⟩
    · rcases Phi.ext_of hb' with ⟨rfl, rfl, rfl⟩ | hb'
      · refine .inr (.inr ⟨r.ep, l, hl, hm, ?_⟩)
        rcases hc with hc | hc
        · exact .inl hc.symm
        · exact .inr hc
      · exact .inl hb'
    · rw [St.get_set hb]
      split
      · rename_i heq; subst heq; rw [hm]; rfl
      · rfl
    · refine hold c hcc fun h => ?_
      have := hcm b r.ep l hl h.symm
      rw [hm] at this; cases this

/-- A map, or what goes through a text, turned. -/
theorem upd_obj (hs : SRel X φ s.get w) {b : Nat} {o o1 : AObj} {o' : Obj} {l : Loc} (hb : s.get b = some o) (hl : φ b 0 = some l) (hm : isMut (some o) = true) (hm1 : isMut (some o1) = true) (hne : ∀ e l', φ b e = some l' → e = 0)
    (ho : ORel X φ { w with heap := w.heap.setIfInBounds l.c o' } 0 l o1) :
    SRel X φ (s.set b o1).get { w with heap := w.heap.setIfInBounds l.c o' } ∧ Step φ φ s (s.set b o1) w { w with heap := w.heap.setIfInBounds l.c o' } := by
  have old : ∀ c, c ≠ l.c → (w.heap.setIfInBounds l.c o')[c]? = w.heap[c]? := by
    intro c hc
    rw [Array.getElem?_setIfInBounds, if_neg (fun h => hc h.symm)]
  constructor
  · refine ⟨fun b' e' l' hb' o2 ho2 => ?_, fun b' e' l' hb' => ?_, fun b1 e1 l1 b2 e2 l2 k1 k2 hne hmu => ?_⟩
    · rw [St.get_set hb] at ho2
      split at ho2
      · rename_i heq; subst heq
        cases ho2
        have := hne _ _ hb'
        subst this
        rw [hl] at hb'; cases hb'
        exact ho
      · rename_i hne
        exact (hs.obj _ _ _ hb' _ ho2).world (fun _ _ _ h => h) (old _ (fun h => (hs.sep _ _ _ _ _ _ hl hb' hne (by rw [hb]; exact hm)) h.symm))
    · simp only [Array.size_setIfInBounds]; exact hs.lt _ _ _ hb'
    · refine hs.sep _ _ _ _ _ _ k1 k2 hne ?_
      rw [St.get_set hb] at hmu
      split at hmu
      · rename_i heq; subst heq; rw [hb]; exact hm
      · exact hmu
  · refine ⟨Nat.le_refl _, fun _ _ _ h => h, fun _ _ _ h => .inl h, fun b' _ => ?_, rfl, rfl, rfl, by simp, fun c _ hc => ?_⟩
    · rw [St.get_set hb]
      split
      · rename_i heq; subst heq; rw [hb, hm1, hm]
      · rfl
    · refine old c fun h => ?_
      have := hc b 0 l hl h.symm
      rw [hb, hm] at this; cases this
end
end Go.Proofs.Ytndedkpcfjnecaa.Ab
