/- What turns maps; conversions; what is made; all operations in one theorem. -/
import Derived.Test.YtndedkpcfjnecaaA8
import Derived.Laws.BytesArg
import Derived.Lib.ConvBytes
set_option linter.unusedSimpArgs false
set_option linter.unusedVariables false
namespace Go.Proofs.Ytndedkpcfjnecaa.Ab

theorem MRels.append {φ : Phi} : ∀ {l l' m m' : List MapEntry}, MRels φ l l' → MRels φ m m' → MRels φ (l ++ m) (l' ++ m')
  | _, _, _, _, .nil, h => h
  | _, _, _, _, .cons k v v' b l l' h1 h2, h => .cons k v v' b _ _ h1 (h2.append h)
theorem MRels.erase {φ : Phi} : ∀ {l l' : List MapEntry} (i : Nat), MRels φ l l' → MRels φ (l.eraseIdx i) (l'.eraseIdx i)
  | _, _, _, .nil => .nil
  | _, _, 0, .cons k v v' b l l' h1 h2 => h2
  | _, _, i + 1, .cons k v v' b l l' h1 h2 => .cons k v v' b _ _ h1 (h2.erase i)
theorem MRels.modify {φ : Phi} {u u' : Value} (hu : VRel φ u u') : ∀ {l l' : List MapEntry} (i : Nat) (k' : Value), MRels φ l l' → (∀ e, l'[i]? = some e → e.key = k') → MRels φ (setVal l i u) (l'.modify i fun e => { e with key := k', val := u' })
  | _, _, i, _, .nil, _ => by simp [setVal]; exact .nil
  | _, _, 0, k', .cons k v v' b l l' h1 h2, hk => by
    have := hk _ rfl
    simp only at this
    subst this
    exact .cons _ _ _ _ _ _ hu h2
  | _, _, i + 1, k', .cons k v v' b l l' h1 h2, hk => .cons _ _ _ _ _ _ h1 (MRels.modify hu i k' h2 fun e he => hk e (by simpa using he))

section
variable {X : Prg} {P : Program} (H : Sound X P) {φ : Phi} {s : St} {w : World}

theorem sameBits_self {k : Value} (h : cstOk0 k = true) (n : Nat) : Instr.sameBits (n + 1) k k = true := by
  unfold cstOk0 at h
  split at h
  · simp [Instr.sameBits]
  · simp [Instr.sameBits, bytes_beq]
  · cases h

include H
theorem mapUpdate_run {t : Nat} {m k v m' k' v' : Value} {s' : St} (h : mapUpdatev X t m k v s = some s') (hm : VRel φ m m') (hk : VRel φ k k') (hv : VRel φ v v') (hs : SRel X φ s.get w) :
    ∃ w', (Instr.mapUpdate t m' k' v').run P w = .ok () w' ∧ SRel X φ s'.get w' ∧ Step φ φ s s' w w' := by
  unfold mapUpdatev at h
  split at h
  · rename_i kt et r hu
    split at h
    · rename_i dk es clk hdk hb
      split at h
      · rename_i hc
        obtain ⟨hkt, hcst⟩ := hc
        cases hm with | map r l hl =>
        obtain ⟨_, es', g1, g2⟩ := hs.obj _ _ _ hl _ hb
        have hu' := run_ud H w hu
        have hd := run_ud H w hdk
        have hgo : (getObj l.c).run P w = .ok (.map es' clk) w := by simp [getObj, Sem.run, g1]
        have hck := checkKey_plain (k' := k') hd hkt false 9999
        have hso : ∀ o', (setObj l.c o').run P w = .ok () { w with heap := w.heap.setIfInBounds l.c o' } := fun o' => by simp [setObj, Sem.run, g1]
        have hkk : k' = k := by
          unfold cstOk0 at hcst
          split at hcst
          · cases hk; rfl
          · cases hk; rfl
          · cases hcst
        have hne : ∀ e l', φ r e = some l' → e = 0 := fun e l' he => (hs.obj _ _ _ he _ hb).1
        have hlt := hs.lt _ _ _ hl
        split at h
        · rename_i j u hf
          cases h
          rcases find_rel hk g2 hf with ⟨h0, _⟩ | ⟨j', u0, u', h3, h4, h5, _, e, h7, h8⟩
          · cases h0
          · cases h3
            simp only [Nat.sub_zero] at h7
            have hkts : (Instr.keyThatStays (((es'[j]?).map (·.key)).getD k') k').run P w = .ok k' w := by
              have : es'[j]? = some e := by simpa using h7
              rw [this]
              simp only [Option.map_some, Option.getD_some, h8]
              have hsb : Instr.sameBits 10000 k' k' = true := by rw [hkk]; exact sameBits_self hcst 9999
              simp [Instr.keyThatStays, hsb]
            obtain ⟨q1, q2⟩ := upd_obj (X := X) hs (o' := .map (es'.modify j fun e => { e with key := k', val := v' }) clk) (o1 := .map (setVal es j v) clk) hb hl rfl rfl hne
              ⟨rfl, es'.modify j fun e => { e with key := k', val := v' }, by simp [hlt], by
                rw [Array.toList_modify]
                exact g2.modify hv j k' (fun e' he' => by
                  have h9 : es'.toList[j]? = some e := h7
                  rw [h9] at he'; cases he'; exact h8)⟩
            refine ⟨_, ?_, q1, q2⟩
            simp [Instr.mapUpdate, hu', hgo, hck, Instr.findKey, hd, h4, hkts, hso]
        · rename_i hf
          cases h
          rcases find_rel hk g2 hf with ⟨_, h4⟩ | ⟨j', u0, u', h3, _⟩
          · obtain ⟨q1, q2⟩ := upd_obj (X := X) hs (o' := .map (es'.push { key := k', val := v', born := clk }) (clk + 1)) (o1 := .map (es ++ [{ key := k, val := v, born := clk }]) (clk + 1)) hb hl rfl rfl hne
              ⟨rfl, es'.push { key := k', val := v', born := clk }, by simp [hlt], by
                rw [Array.toList_push, hkk]
                exact g2.append (.cons _ _ _ _ _ _ hv .nil)⟩
            refine ⟨_, ?_, q1, q2⟩
            simp [Instr.mapUpdate, hu', hgo, hck, Instr.findKey, hd, h4, hso]
          · cases h3
        · cases h
      · cases h
    · cases h
  · cases h

theorem delete_run {t : Nat} {m k m' k' : Value} {argTypes : Array TypeId} {ty0 : TypeId} {s' : St} (ht : argTypes[0]? = some t) (h : deletev X t m k s = some s') (hm : VRel φ m m') (hk : VRel φ k k') (hs : SRel X φ s.get w) :
    ∃ w', (Builtin.delete_ argTypes ty0 #[m', k']).run P w = .ok (.tuple #[]) w' ∧ SRel X φ s'.get w' ∧ Step φ φ s s' w w' := by
  unfold deletev at h
  split at h
  · rename_i kt et r hu
    split at h
    · rename_i dk es clk hdk hb
      split at h
      · rename_i hkt
        cases hm with | map r l hl =>
        obtain ⟨_, es', g1, g2⟩ := hs.obj _ _ _ hl _ hb
        have hu' := run_ud H w hu
        have hd := run_ud H w hdk
        have hgo : (getObj l.c).run P w = .ok (.map es' clk) w := by simp [getObj, Sem.run, g1]
        have hck := fun b => checkKey_plain (k' := k') hd hkt b 9999
        have hso : ∀ o', (setObj l.c o').run P w = .ok () { w with heap := w.heap.setIfInBounds l.c o' } := fun o' => by simp [setObj, Sem.run, g1]
        have hne : ∀ e l', φ r e = some l' → e = 0 := fun e l' he => (hs.obj _ _ _ he _ hb).1
        have hlt := hs.lt _ _ _ hl
        split at h
        · rename_i j u hf
          cases h
          rcases find_rel hk g2 hf with ⟨h0, _⟩ | ⟨j', u0, u', h3, h4, h5, _, e, h7, h8⟩
          · cases h0
          · cases h3
            obtain ⟨q1, q2⟩ := upd_obj (X := X) hs (o' := .map (es'.eraseIdxIfInBounds j) clk) (o1 := .map (es.eraseIdx j) clk) hb hl rfl rfl hne
              ⟨rfl, es'.eraseIdxIfInBounds j, by simp [hlt], by
                rw [Array.toList_eraseIdxIfInBounds]
                exact g2.erase j⟩
            refine ⟨_, ?_, q1, q2⟩
            simp [Builtin.delete_, ht, hu', hgo, hck, Instr.findKey, hd, h4, hso]
        · rename_i hf
          cases h
          rcases find_rel hk g2 hf with ⟨_, h4⟩ | ⟨j', u0, u', h3, _⟩
          · obtain ⟨q1, q2⟩ := upd_obj (X := X) hs (o' := .map es' clk) (o1 := .map es clk) hb hl rfl rfl hne ⟨rfl, es', by simp [hlt], g2⟩
            refine ⟨_, ?_, q1, q2⟩
            simp [Builtin.delete_, ht, hu', hgo, hck, Instr.findKey, hd, h4, hso]
          · cases h3
        · cases h
      · cases h
    · cases h
  · cases h

omit H in
theorem bytesIn_run : ∀ {cs : List Value} {l : List UInt8}, bytesIn cs = some l → ∃ xs : List Int, cs = xs.map (Value.int .u8) ∧ l = xs.map fun n => UInt8.ofNat n.toNat := by
  intro cs
  induction cs with
  | nil => intro l h; simp only [bytesIn, Option.some.injEq] at h; subst h; exact ⟨[], rfl, rfl⟩
  | cons v r ih =>
    intro l h
    unfold bytesIn at h
    split at h
    · cases ‹_ :: _ = []›
    · rename_i n r' heq
      cases heq
      simp only [Option.map_eq_some_iff] at h
      obtain ⟨l2, h3, rfl⟩ := h
      obtain ⟨xs, rfl, rfl⟩ := ih h3
      exact ⟨n :: xs, rfl, rfl⟩
    · cases h
omit H in
theorem ints_same : ∀ {xs : List Int} {cs' : List Value}, VRels φ (xs.map (Value.int .u8)) cs' → cs' = xs.map (Value.int .u8)
  | [], _, .nil => rfl
  | x :: xs, _, .cons _ _ _ _ h1 h2 => by
    cases h1
    rw [ints_same h2]
    rfl
omit H in
theorem bytesWorld_heap (w : World) (e : TypeId) (b : ByteArray) : (Lib.bytesWorld w e b).heap = w.heap.push (.cells (Lib.bytesCells w e b) e ((Lib.bytesCells w e b).size, (Lib.bytesCells w e b).size + 1)) := by
  apply Array.ext_getElem?
  intro j
  rw [Array.getElem?_push]
  split
  · rename_i h; subst h; exact Lib.bytesWorld_at_new w e b
  · rename_i h
    by_cases hj : j < w.heap.size
    · exact Lib.bytesWorld_at_old w e b j hj
    · rw [Array.getElem?_eq_none (by rw [Lib.bytesWorld_size]; omega), Array.getElem?_eq_none (by omega)]

theorem convert_run {a b : Nat} {x x' v : Value} {s' : St} (h : convertv X a b x s = some (v, s')) (hx : VRel φ x x') (hs : SRel X φ s.get w) (hf : Fresh φ s.size s'.size) :
    ∃ φ' v' w', (convert a b x').run P w = .ok v' w' ∧ VRel φ' v v' ∧ SRel X φ' s'.get w' ∧ Step φ φ' s s' w w' := by
  unfold convertv at h
  split at h
  · rename_i ts td hta htb
    have hua := H.und _ _ hta
    have hub := H.und _ _ htb
    split at h
    · rename_i k1 k k2 n e1 e2
      cases h; cases hx
      rw [e1] at hua; rw [e2] at hub
      exact ⟨φ, _, w, by simp [convert, run_underlying hua, run_underlying hub, Conv.intToInt], .int _ _, hs, Step.refl _ _ _⟩
    · rename_i k1 k2 n e1 e2
      cases h; cases hx
      rw [e1] at hua; rw [e2] at hub
      exact ⟨φ, _, w, by simp [convert, run_underlying hua, run_underlying hub, Conv.intToString], .string _, hs, Step.refl _ _ _⟩
    · rename_i c e1 e2
      cases h; cases hx
      rw [e1] at hua; rw [e2] at hub
      exact ⟨φ, _, w, by simp [convert, run_underlying hua, run_underlying hub], .string _, hs, Step.refl _ _ _⟩
    · rename_i e c e1 e2
      cases hx
      rw [e1] at hua; rw [e2] at hub
      split at h
      · rename_i hu8
        cases h
        obtain ⟨te, hte, hte2⟩ : ∃ te, X.ty e = some te ∧ te.und = .int .u8 := by
          unfold Prg.und at hu8
          split at hu8
          · rename_i te hte; simp only [Option.some.injEq] at hu8; exact ⟨te, hte, hu8⟩
          · cases hu8
        have hue := H.und _ _ hte
        rw [hte2] at hue
        have hr := Lib.run_convert_string_bytes (P := P) w a b e c hua hub hue
        have hv : VRels φ (bytesOut c.data.toList) (bytesOut c.data.toList) := VRels.self _ fun u hu => by
          unfold bytesOut at hu
          obtain ⟨q, _, rfl⟩ := List.mem_map.1 hu
          exact .int _ _
        have hsz : te.size = 1 := (H.zero _ _ hte).2.2 (by unfold Ty.agg; rw [hte2])
        obtain ⟨k1, k2⟩ := new_row (str := true) hs hte (by simpa [St.size_push] using hf) hv (rest := List.replicate (grownCap w c.size 0 e - c.size) (.int .u8 0)) (w' := Lib.bytesWorld w e c)
          (by rw [bytesWorld_heap]; congr 2; apply Array.ext'; simp [Lib.bytesCells, bytesOut]) (fun h => by cases h) rfl rfl rfl
        refine ⟨_, _, _, hr, ?_, k1, k2⟩
        have hg : c.size ≤ grownCap w c.size 0 e := by unfold grownCap; exact Nat.le_add_right _ _
        refine VRel.slice ⟨s.size, 0, none⟩ _ _ _ _ _ (Phi.ext_same _ _ _ _) (.inl rfl) hg ?_ ?_ ?_
        · unfold capO; intro; omega
        · unfold capO; omega
        · intro _ _
          simp only [List.length_replicate, bytesOut, List.length_map, Array.length_toList, hsz]
          have : c.data.size = c.size := rfl
          omega
      · cases h
    · rename_i e l c e1 e2
      cases hx
      rw [e1] at hua; rw [e2] at hub
      split at h
      · rename_i hu8
        cases h
        have hue : P.underlying e = some (.int .u8) := by
          unfold Prg.und at hu8
          split at hu8
          · rename_i te hte; simp only [Option.some.injEq] at hu8; rw [← hu8]; exact H.und _ _ hte
          · cases hu8
        exact ⟨φ, _, w, run_convert_bytes_nil (P := P) w a e hua hue 0 0 b hub, .string _, hs, Step.refl _ _ _⟩
      · cases h
    · rename_i e ad len cap e1 e2
      cases hx with | slice ad l len cap aa cap' hl h1 h2 h3 h4 h5 =>
      rw [e1] at hua; rw [e2] at hub
      split at h
      · rename_i hu8
        have hue : P.underlying e = some (.int .u8) := by
          unfold Prg.und at hu8
          split at hu8
          · rename_i te hte; simp only [Option.some.injEq] at hu8; rw [← hu8]; exact H.und _ _ hte
          · cases hu8
        split at h
        · rename_i cs hcs
          simp only [Option.map_eq_some_iff, Prod.mk.injEq] at h
          obtain ⟨bs, hbs, rfl, rfl⟩ := h
          obtain ⟨xs, rfl, rfl⟩ := bytesIn_run hbs
          obtain ⟨g1, cs', g2, g3⟩ := rd_rel hs hcs hl
          have := ints_same g2
          subst this
          simp only [List.length_map] at g1
          have hr : (convert a b (.slice (some aa) len cap')).run P w = .ok (.string (strOfNums xs)) w := by
            by_cases hc : cap' = 0
            · obtain rfl : len = 0 := by omega
              have hx : xs = [] := List.eq_nil_of_length_eq_zero g1
              subst hx
              have hl0 : (loadCells aa 0).run P w = .ok (([] : List Int).map (Value.int .u8)).toArray w := by simp [loadCells, loadCellsFrom]
              rw [run_convert_bytes_string w a b e _ 0 cap' hua hue hub, run_bytesToString w _ 0 cap' [] hl0]
              rfl
            · have hco : aa = ⟨l.c, l.off + ad.off, none⟩ := by rcases h1 with h1 | h1; exact h1; exact absurd h1 hc
              subst hco
              exact run_convert_bytes_arg (P := P) w a e hua hue l.c (l.off + ad.off) len cap' xs g1 (fun i hi => by
                refine g3 i _ ?_
                simp [List.getElem?_eq_getElem (show i < xs.length by omega), List.getD_eq_getElem?_getD]) b hub
          exact ⟨φ, _, w, hr, .string _, hs, Step.refl _ _ _⟩
        · cases h
      · cases h
    · cases h
  · cases h

theorem len_run {t : Nat} {x x' : Value} {n : Int} {argTypes : Array TypeId} {ty0 : TypeId} (ht : argTypes[0]? = some t) (h : lenv X t x s = some n) (hx : VRel φ x x') (hs : SRel X φ s.get w) :
    (Builtin.len_ argTypes ty0 #[x']).run P w = .ok (.int .i64 n) w := by
  unfold lenv at h
  split at h
  · cases h
  · rename_i ty hty
    have hu := run_und H w hty
    split at h
    · rename_i b e; rw [e] at hu; cases h; cases hx
      simp [Builtin.len_, ht, hu, goInt]
    · rename_i k a m c e; rw [e] at hu; cases h
      obtain ⟨b, c', rfl⟩ := len_slice hx
      simp [Builtin.len_, ht, hu, goInt]
    · rename_i m k e; rw [e] at hu; cases h
      cases hx <;> simp [Builtin.len_, ht, hu, goInt]
    · rename_i arr e; rw [e] at hu
      split at h
      · rename_i m k hd; cases h
        have := run_ud H w hd
        cases hx <;> simp [Builtin.len_, ht, hu, goInt, this]
      · cases h
    · rename_i k1 k2 e; rw [e] at hu; cases h; cases hx
      simp [Builtin.len_, ht, hu, goInt]
    · rename_i k1 k2 r e; rw [e] at hu
      split at h
      · rename_i es clk hb; cases h
        cases hx with | map r l hl =>
        obtain ⟨_, es', g1, g2⟩ := hs.obj _ _ _ hl _ hb
        have hgo : (getObj l.c).run P w = .ok (.map es' clk) w := by simp [getObj, Sem.run, g1]
        have := g2.length
        simp only [Array.length_toList] at this
        simp [Builtin.len_, ht, hu, goInt, hgo, this]
      · cases h
    · cases h
end
end Go.Proofs.Ytndedkpcfjnecaa.Ab
