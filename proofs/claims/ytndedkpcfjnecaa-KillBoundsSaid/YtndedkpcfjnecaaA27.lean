/- What a row hands in, by the shape of its type: read into the evaluator's store. -/
import Derived.Test.YtndedkpcfjnecaaA26
set_option linter.unusedSimpArgs false
set_option linter.unusedVariables false
namespace Go.Proofs.Ytndedkpcfjnecaa.Ab
open Go.RowKit Go.Deep Go.WideShapes

/-- Shapes: 'one' and 'more' are a struct's fields. -/
inductive TD where
  | int (k : IntKind)
  | bool
  | str
  | slice (e : TD)
  | one (a : TD)
  | more (a r : TD)
@[reducible] def TD.T : TD → Type
  | .int _ => Int
  | .bool => Bool
  | .str => ByteArray
  | .slice e => List e.T
  | .one a => a.T
  | .more a r => a.T × r.T
def TD.size : TD → Nat
  | .int _ | .bool | .str | .slice _ => 1
  | .one a => a.size
  | .more a r => a.size + r.size
def TD.fit (P : Program) : TD → TypeId ⊕ (List Field × Nat) → Bool
  | .int k, .inl t => (match P.underlying t with | some (.int k') => decide (k' = k) | _ => false) && P.cellsOf t == 1
  | .bool, .inl t => (match P.underlying t with | some .bool => true | _ => false) && P.cellsOf t == 1
  | .str, .inl t => (match P.underlying t with | some .string => true | _ => false) && P.cellsOf t == 1
  | .slice e, .inl t => (match P.underlying t with | some (.slice u) => e.fit P (.inl u) | _ => false) && P.cellsOf t == 1
  | .one a, .inl t => (match P.underlying t with | some (.struct fs) => (match fs.toList with | [f] => f.offset == 0 && a.fit P (.inl f.type) | _ => false) | _ => false) && P.cellsOf t == a.size
  | .more a r, .inl t => (match P.underlying t with | some (.struct fs) => (match fs.toList with | f :: fl => f.offset == 0 && a.fit P (.inl f.type) && r.fit P (.inr (fl, a.size)) | _ => false) | _ => false) && P.cellsOf t == a.size + r.size
  | .one a, .inr (fl, off) => match fl with | [f] => f.offset == off && a.fit P (.inl f.type) | _ => false
  | .more a r, .inr (fl, off) => match fl with | f :: fl => f.offset == off && a.fit P (.inl f.type) && r.fit P (.inr (fl, off + a.size)) | _ => false
  | _, .inr _ => false
theorem TD.fit_size {P : Program} : ∀ (d : TD) (t : TypeId), d.fit P (.inl t) = true → P.cellsOf t = d.size
  | .int _, t, h | .bool, t, h | .str, t, h | .slice _, t, h | .one _, t, h | .more _ _, t, h => by
    simp only [TD.fit, Bool.and_eq_true, beq_iff_eq] at h
    exact h.2
def TD.Enc (s : St) : (d : TD) → d.T → List Value → Prop
  | .int k, n, cs => cs = [.int k n] ∧ (Lit.int k n).wf = true
  | .bool, b, cs => cs = [.bool b]
  | .str, b, cs => cs = [.string b] ∧ b.size ≤ maxLen
  | .slice e, l, cs => (cs = [.slice none 0 0] ∧ l = []) ∨ ∃ a cap cells, cs = [.slice (some a) l.length cap] ∧ (Ro s a (l.length * e.size) cells ∧ l.length ≤ cap / 2) ∧ ∀ i x, l[i]? = some x → e.Enc s x ((cells.drop (i * e.size)).take e.size)
  | .one a, x, cs => a.Enc s x cs
  | .more a r, p, cs => ∃ c1 c2, cs = c1 ++ c2 ∧ a.Enc s p.1 c1 ∧ r.Enc s p.2 c2
theorem TD.Enc.length {s : St} : ∀ (d : TD) (x : d.T) (cs : List Value), d.Enc s x cs → cs.length = d.size
  | .int _, _, _, h => by rw [h.1]; rfl
  | .bool, _, _, h => by rw [show _ = _ from h]; rfl
  | .str, _, _, h => by rw [h.1]; rfl
  | .slice _, _, _, h => by rcases h with h | ⟨_, _, _, h, _⟩ <;> (first | rw [h.1] | rw [h]) <;> rfl
  | .one a, x, cs, h => TD.Enc.length a x cs h
  | .more a r, p, cs, ⟨c1, c2, h, h1, h2⟩ => by rw [h, List.length_append, TD.Enc.length a _ _ h1, TD.Enc.length r _ _ h2]; rfl
theorem TD.Enc.keep {s s' : St} (k : RoKeep s s') : ∀ (d : TD) (x : d.T) (cs : List Value), d.Enc s x cs → d.Enc s' x cs
  | .int _, _, _, h => h
  | .bool, _, _, h => h
  | .str, _, _, h => h
  | .slice e, l, cs, h => by
    rcases h with h | ⟨a, cap, cells, h1, h2, h3⟩
    · exact .inl h
    · exact .inr ⟨a, cap, cells, h1, ⟨h2.1.keep k, h2.2⟩, fun i x hx => TD.Enc.keep k e x _ (h3 i x hx)⟩
  | .one a, x, cs, h => TD.Enc.keep k a x cs h
  | .more a r, p, cs, ⟨c1, c2, h, h1, h2⟩ => ⟨c1, c2, h, TD.Enc.keep k a _ _ h1, TD.Enc.keep k r _ _ h2⟩

theorem Phi.le_trans {φ1 φ2 φ3 : Phi} (h : φ1.le φ2) (k : φ2.le φ3) : φ1.le φ3 := fun b e l hb => k _ _ _ (h _ _ _ hb)
/-- A slice of the machine's that holds nothing, wherever it points. -/
theorem Ready.empty {X : Prg} {φ : Phi} {s : St} {w : World} (h : Ready X φ s w) (x : Addr) (hpos : 0 < w.heap.size) :
    ∃ φ', Ready X φ' (s.push (.ro [])) w ∧ φ.le φ' ∧ VRel φ' (.slice (some ⟨s.size, 0, none⟩) 0 (capO 0)) (.slice (some x) 0 0) ∧ Ro (s.push (.ro [])) ⟨s.size, 0, none⟩ 0 [] := by
  obtain ⟨h1, h2⟩ := h.push ⟨0, 0, 0, 0⟩ hpos [] (fun i v hv => by simp at hv)
  refine ⟨_, h1, h2, ?_, ⟨[], by rw [St.get_push, if_pos rfl]⟩, ?_⟩
  · exact VRel.slice _ ⟨0, 0, 0, 0⟩ _ _ _ _ (by simp [Phi.add, ep]) (.inr rfl) (Nat.le_refl _) (by simp [capO]) (by simp [capO]) (by simp)
  · unfold St.rd
    rw [St.get_push, if_pos rfl]
    simp [ep]
theorem cells?_at {w : World} {base n : Nat} {a : Addr} {cs : List Value} (h : w.cells? base a n = some cs) : cs.length = n ∧ ∀ i v, cs[i]? = some v → w.cell? (a.add i) = some v := by
  obtain ⟨_, h2, h3⟩ := World.cells?_some h
  refine ⟨h2, fun i v hv => ?_⟩
  have hi : i < n := by
    have := (List.getElem?_eq_some_iff.1 hv).1
    omega
  have := h3 i hi
  rw [hv] at this
  exact this
theorem cell?_there {w : World} {a : Addr} {v : Value} (h : w.cell? a = some v) : a.spot = none ∧ a.block < w.heap.size := by
  unfold World.cell? at h
  split at h
  · rename_i c t fr hb
    split at h
    · cases h
    · rename_i hs
      refine ⟨by simpa using hs, ?_⟩
      rcases Nat.lt_or_ge a.block w.heap.size with h1 | h1
      · exact h1
      · rw [Array.getElem?_eq_none h1] at hb; cases hb
  · cases h
section
variable {H : Type} {enc : TypeId × Value → H} {P : Program} {w : World} {base : Nat} {spare : Nat → Bool} {held : Bool} {X : Prg}
def OpenAt (enc : TypeId × Value → H) (P : Program) (w : World) (base : Nat) (spare : Nat → Bool) (held : Bool) (X : Prg) (d : TD) (tt : TypeId ⊕ (List Field × Nat)) : Prop := match tt with
  | .inl t => ∀ fuel cs x φ s, DataW.trod enc P w base spare held fuel t cs = some x → Ready X φ s w → ∃ (φ' : Phi) (s' : St) (y : d.T) (cs' : List Value), Ready X φ' s' w ∧ φ.le φ' ∧ Ext s s' ∧ VRels φ' cs' cs ∧ d.Enc s' y cs'
  | .inr (fl, off) => ∀ n (cs : List Value) φ s, (∀ (i : Nat) f, fl[i]? = some f → ∃ x, DataW.trod enc P w base spare held n f.type ((cs.drop f.offset).take (P.cellsOf f.type)) = some x) → Ready X φ s w →
      ∃ (φ' : Phi) (s' : St) (y : d.T) (cs' : List Value), Ready X φ' s' w ∧ φ.le φ' ∧ Ext s s' ∧ VRels φ' cs' ((cs.drop off).take d.size) ∧ d.Enc s' y cs'
theorem take_add_split {α : Type} (l : List α) (o a b : Nat) : (l.drop o).take (a + b) = (l.drop o).take a ++ (l.drop (o + a)).take b := by
  rw [List.take_add, List.drop_drop]
theorem openAt (hsp : ∀ b, spare b = true) (hpos : 0 < w.heap.size) : ∀ (d : TD) (tt : TypeId ⊕ (List Field × Nat)), d.fit P tt = true → OpenAt enc P w base spare held X d tt
  | .int k, .inl t, hf => by
    intro fuel cs x φ s h hr
    simp only [TD.fit, Bool.and_eq_true] at hf
    have hu : P.underlying t = some (.int k) := by
      have := hf.1
      split at this
      · rename_i k' hk; rw [hk, of_decide_eq_true this]
      · cases this
    obtain ⟨n, rfl, _, hwf⟩ := DataW.trod_int hu h
    exact ⟨φ, s, n, [.int k n], hr, fun _ _ _ h => h, Ext.refl s, .cons _ _ _ _ (.int _ _) .nil, rfl, hwf⟩
  | .bool, .inl t, hf => by
    intro fuel cs x φ s h hr
    simp only [TD.fit, Bool.and_eq_true] at hf
    have hu : P.underlying t = some .bool := by
      have := hf.1
      split at this
      · assumption
      · cases this
    obtain ⟨b, rfl, _⟩ := DataW.trod_bool hu h
    exact ⟨φ, s, b, [.bool b], hr, fun _ _ _ h => h, Ext.refl s, .cons _ _ _ _ (.bool _) .nil, rfl⟩
  | .str, .inl t, hf => by
    intro fuel cs x φ s h hr
    simp only [TD.fit, Bool.and_eq_true] at hf
    have hu : P.underlying t = some .string := by
      have := hf.1
      split at this
      · assumption
      · cases this
    obtain ⟨b, rfl, _, hb⟩ := DataW.trod_string hu h
    exact ⟨φ, s, b, [.string b], hr, fun _ _ _ h => h, Ext.refl s, .cons _ _ _ _ (.string _) .nil, rfl, hb⟩
  | .slice e, .inl t, hf => by
    intro fuel cs x φ s h hr
    simp only [TD.fit, Bool.and_eq_true] at hf
    obtain ⟨u, hu, hfe⟩ : ∃ u, P.underlying t = some (.slice u) ∧ e.fit P (.inl u) = true := by
      have := hf.1
      split at this
      · rename_i u hu; exact ⟨u, hu, this⟩
      · cases this
    have ih := openAt hsp hpos e (.inl u) hfe
    have hC := TD.fit_size e u hfe
    rcases open_slice hu h with ⟨rfl, _⟩ | ⟨a, len, cap, m, n, D, Pl, rfl, hb, hlc, hcm, hm, _, hi⟩
    · exact ⟨φ, s, [], [.slice none 0 0], hr, fun _ _ _ h => h, Ext.refl s, .cons _ _ _ _ .nilSlice .nil, .inl ⟨rfl, rfl⟩⟩
    · rw [hsp, if_pos rfl] at hm
      subst hm
      rw [hC] at hi
      by_cases hcap : m = 0
      · subst hcap
        obtain rfl : len = 0 := by omega
        obtain ⟨φ', g1, g2, g3, g4⟩ := hr.empty a hpos
        exact ⟨φ', _, [], _, g1, g2, Ext.push _ _, .cons _ _ _ _ g3 .nil, .inr ⟨_, _, [], rfl, ⟨by simpa using g4, Nat.zero_le _⟩, fun i x hx => by simp at hx⟩⟩
      · -- the elements, one by one
        have build : ∀ j, j ≤ len → ∃ (φ' : Phi) (s' : St) (ys : List e.T) (rc cells : List Value), Ready X φ' s' w ∧ φ.le φ' ∧ Ext s s' ∧ ys.length = j ∧ rc.length = j * e.size ∧ (∀ i v, rc[i]? = some v → w.cell? (a.add i) = some v) ∧
            VRels φ' cells rc ∧ ∀ i x, ys[i]? = some x → e.Enc s' x ((cells.drop (i * e.size)).take e.size) := by
          intro j
          induction j with
          | zero => intro _; exact ⟨φ, s, [], [], [], hr, fun _ _ _ h => h, Ext.refl s, rfl, by simp, fun i v hv => by simp at hv, .nil, fun i x hx => by simp at hx⟩
          | succ j ihj =>
            intro hj
            obtain ⟨φ1, s1, ys, rc, cells, k1, k2, k3, k4, k5, k6, k7, k8⟩ := ihj (by omega)
            obtain ⟨cs', c1, c2⟩ := hi j (by omega)
            obtain ⟨c3, c4⟩ := cells?_at c1
            obtain ⟨φ2, s2, y, cs2, q1, q2, q3, q4, q5⟩ := ih n cs' _ φ1 s1 c2 k1
            have hcl := k7.length
            have hl2 := TD.Enc.length e y cs2 q5
            refine ⟨φ2, s2, ys ++ [y], rc ++ cs', cells ++ cs2, q1, Phi.le_trans k2 q2, k3.trans q3, by simp [k4], by rw [List.length_append, k5, c3, Nat.succ_mul], fun i v hv => ?_, (k7.mono q2).append q4, fun i x hx => ?_⟩
            · by_cases hlt : i < rc.length
              · rw [List.getElem?_append_left hlt] at hv; exact k6 i v hv
              · rw [List.getElem?_append_right (by omega)] at hv
                have := c4 _ _ hv
                rw [Go.Deep.add_add] at this
                rw [k5] at this hlt
                rw [show i = j * e.size + (i - j * e.size) by omega]
                exact this
            · by_cases hlt : i < ys.length
              · rw [List.getElem?_append_left hlt] at hx
                have h1 := TD.Enc.keep q3.keep e x _ (k8 i x hx)
                have hle : i * e.size + e.size ≤ cells.length := by
                  rw [hcl, k5, ← Nat.succ_mul]
                  exact Nat.mul_le_mul_right _ (by omega)
                rw [List.drop_append_of_le_length (by omega), List.take_append_of_le_length (by rw [List.length_drop]; omega)]
                exact h1
              · have hi2 : i = j := by
                  have := (List.getElem?_eq_some_iff.1 hx).1
                  simp at this; omega
                subst hi2
                rw [List.getElem?_append_right (by omega)] at hx
                simp [k4] at hx
                subst hx
                have : (cells ++ cs2).drop (i * e.size) = cs2 := by rw [← k5, ← hcl]; simp
                rw [this, List.take_of_length_le (by omega)]
                exact q5
        obtain ⟨φ1, s1, ys, rc, cells, k1, k2, k3, k4, k5, k6, k7, k8⟩ := build len (Nat.le_refl _)
        have hcl := k7.length
        have hthere : e.size ≠ 0 → a.spot = none ∧ a.block < w.heap.size := fun hne => by
          obtain ⟨cs', c1, c2⟩ := hi 0 (by omega)
          obtain ⟨c3, c4⟩ := cells?_at c1
          obtain ⟨v, hv⟩ : ∃ v, cs'[0]? = some v := ⟨_, List.getElem?_eq_getElem (by omega)⟩
          have := c4 0 v hv
          rw [Nat.zero_mul] at this
          exact cell?_there (show w.cell? a = some v by simpa [Addr.add] using this)
        have hne : e.size ≠ 0 := by
          have : ∀ d : TD, 0 < d.size := by
            intro d
            induction d with
            | one a ih => exact ih
            | more a r ih1 ih2 => simp only [TD.size]; omega
            | _ => simp [TD.size]
          have := this e; omega
        obtain ⟨t1, t2⟩ := hthere hne
        obtain ⟨g1, g2⟩ := k1.push ⟨a.block, a.off, m * e.size, e.size⟩ t2 cells (fun i v hv => by
          obtain ⟨v', e1, e2⟩ := k7.get i v hv
          refine ⟨v', ?_, e2⟩
          have := k6 i v' e1
          have ha : a.add i = ⟨a.block, a.off + i, none⟩ := by
            unfold Addr.add
            split
            · rename_i h0; subst h0; cases a; simp_all
            · rfl
          rw [ha] at this; exact this)
        refine ⟨_, _, ys, [.slice (some ⟨s1.size, 0, none⟩) len (capO len)], g1, Phi.le_trans k2 g2, k3.trans (Ext.push _ _), .cons _ _ _ _ ?_ .nil, .inr ⟨⟨s1.size, 0, none⟩, capO len, cells, by rw [k4], ⟨⟨⟨cells, by rw [St.get_push, if_pos rfl]⟩, ?_⟩, by rw [k4]; simp only [capO]; omega⟩, fun i x hx => TD.Enc.keep (RoKeep.push _ _) e x _ (k8 i x hx)⟩⟩
        · have ha : a = ⟨a.block, a.off + 0, none⟩ := by cases a; simp_all
          exact VRel.slice _ ⟨a.block, a.off, m * e.size, e.size⟩ _ _ _ _ (by simp [Phi.add, ep]) (.inl ha) hlc (by simp only [capO]; omega) (by simp only [capO]; omega) (fun _ _ => Nat.le_refl _)
        · unfold St.rd
          rw [St.get_push, if_pos rfl]
          refine (if_pos ⟨rfl, by simp only [Nat.zero_add]; rw [hcl, k5, k4]; exact Nat.le_refl _⟩).trans ?_
          rw [List.drop_zero, List.take_of_length_le (by rw [hcl, k5, k4]; exact Nat.le_refl _)]
  | .one a, .inl t, hf => by
    intro fuel cs x φ s h hr
    have hsz := TD.fit_size (.one a) t hf
    simp only [TD.fit, Bool.and_eq_true] at hf
    obtain ⟨fs, f, hu, hfs, hoff, hfa⟩ : ∃ fs f, P.underlying t = some (.struct fs) ∧ fs.toList = [f] ∧ f.offset = 0 ∧ a.fit P (.inl f.type) = true := by
      have := hf.1
      split at this
      · rename_i fs hu
        split at this
        · rename_i f hfs
          simp only [Bool.and_eq_true, beq_iff_eq] at this
          exact ⟨fs, f, hu, hfs, this.1, this.2⟩
        · cases this
      · cases this
    obtain ⟨xs, n, _, _, hl, hxl, hat⟩ := DataW.trod_struct hu h
    have h0 := hat 0 f (by rw [← Array.getElem?_toList, hfs]; rfl)
    have hx : ∃ x0, xs[0]? = some x0 := ⟨_, List.getElem?_eq_getElem (by rw [hxl, ← Array.length_toList, hfs]; simp)⟩
    obtain ⟨x0, hx0⟩ := hx
    rw [hx0, hoff, List.drop_zero, TD.fit_size a _ hfa, List.take_of_length_le (by rw [hl, hsz]; exact Nat.le_refl _)] at h0
    exact openAt hsp hpos a (.inl f.type) hfa n cs x0 φ s h0 hr
  | .more a r, .inl t, hf => by
    intro fuel cs x φ s h hr
    have hsz := TD.fit_size (.more a r) t hf
    simp only [TD.fit, Bool.and_eq_true] at hf
    obtain ⟨fs, f, fl, hu, hfs, hoff, hfa, hfr⟩ : ∃ fs f fl, P.underlying t = some (.struct fs) ∧ fs.toList = f :: fl ∧ f.offset = 0 ∧ a.fit P (.inl f.type) = true ∧ r.fit P (.inr (fl, a.size)) = true := by
      have := hf.1
      split at this
      · rename_i fs hu
        split at this
        · rename_i f fl hfs
          simp only [Bool.and_eq_true, beq_iff_eq] at this
          exact ⟨fs, f, fl, hu, hfs, this.1.1, this.1.2, this.2⟩
        · cases this
      · cases this
    obtain ⟨xs, n, _, _, hl, hxl, hat⟩ := DataW.trod_struct hu h
    have hfld : ∀ (i : Nat) g, (f :: fl)[i]? = some g → ∃ y, DataW.trod enc P w base spare held n g.type ((cs.drop g.offset).take (P.cellsOf g.type)) = some y := fun i g hg => by
      have h1 := hat i g (by rw [← Array.getElem?_toList, hfs]; exact hg)
      have hil : i < xs.length := by
        rw [hxl, ← Array.length_toList, hfs]
        exact (List.getElem?_eq_some_iff.1 hg).1
      exact ⟨xs[i], by rw [h1, List.getElem?_eq_getElem hil]⟩
    obtain ⟨y0, h0⟩ := hfld 0 f rfl
    rw [hoff, List.drop_zero, TD.fit_size a _ hfa] at h0
    obtain ⟨φ1, s1, y1, c1, q1, q2, q3, q4, q5⟩ := openAt hsp hpos a (.inl f.type) hfa n _ y0 φ s h0 hr
    obtain ⟨φ2, s2, y2, c2, p1, p2, p3, p4, p5⟩ := openAt hsp hpos r (.inr (fl, a.size)) hfr n cs φ1 s1 (fun i g hg => hfld (i + 1) g (by simpa using hg)) q1
    refine ⟨φ2, s2, (y1, y2), c1 ++ c2, p1, Phi.le_trans q2 p2, q3.trans p3, ?_, c1, c2, rfl, TD.Enc.keep p3.keep a _ _ q5, p5⟩
    have hcs : cs = cs.take a.size ++ (cs.drop a.size).take r.size := by
      rw [List.take_of_length_le (l := cs.drop a.size) (by rw [List.length_drop, hl, hsz]; simp only [TD.size]; omega), List.take_append_drop]
    rw [hcs]
    exact (q4.mono p2).append p4
  | .one a, .inr (fl, off), hf => by
    intro n cs φ s hfl hr
    simp only [TD.fit] at hf
    split at hf
    · rename_i f
      simp only [Bool.and_eq_true, beq_iff_eq] at hf
      obtain ⟨x, hx⟩ := hfl 0 f rfl
      rw [hf.1, TD.fit_size a _ hf.2] at hx
      exact openAt hsp hpos a (.inl f.type) hf.2 n _ x φ s hx hr
    · cases hf
  | .more a r, .inr (fl, off), hf => by
    intro n cs φ s hfl hr
    simp only [TD.fit] at hf
    split at hf
    · rename_i f fl'
      simp only [Bool.and_eq_true, beq_iff_eq] at hf
      obtain ⟨x, hx⟩ := hfl 0 f rfl
      rw [hf.1.1, TD.fit_size a _ hf.1.2] at hx
      obtain ⟨φ1, s1, y1, c1, q1, q2, q3, q4, q5⟩ := openAt hsp hpos a (.inl f.type) hf.1.2 n _ x φ s hx hr
      obtain ⟨φ2, s2, y2, c2, p1, p2, p3, p4, p5⟩ := openAt hsp hpos r (.inr (fl', off + a.size)) hf.2 n cs φ1 s1 (fun i g hg => hfl (i + 1) g (by simpa using hg)) q1
      refine ⟨φ2, s2, (y1, y2), c1 ++ c2, p1, Phi.le_trans q2 p2, q3.trans p3, ?_, c1, c2, rfl, TD.Enc.keep p3.keep a _ _ q5, p5⟩
      show VRels φ2 (c1 ++ c2) ((cs.drop off).take (a.size + r.size))
      rw [take_add_split]
      exact (q4.mono p2).append p4
    · cases hf
  | .int _, .inr _, hf | .bool, .inr _, hf | .str, .inr _, hf | .slice _, .inr _, hf => by simp [TD.fit] at hf
theorem has_lt {r : Reach} {a : Addr} {e : TypeId} {n : Nat} (h : w.has P r base a e n) : a.block < w.heap.size := by
  unfold World.has at h
  obtain ⟨_, _, row, cells, h5, _⟩ := h
  unfold World.shape? at h5
  rcases Nat.lt_or_ge a.block w.heap.size with h6 | h6
  · exact h6
  · rw [Array.getElem?_eq_none h6] at h5; cases h5
/-- A slice that is handed in. -/
theorem openSlice (hsp : ∀ b, spare b = true) {e : TD} {t : TypeId} (hf : (TD.slice e).fit P (.inl t) = true) {r : Reach} {v : Value} {d : DataW H} {p : List MemPlace} {b0 : Nat} (hv : Value.okWide P w r b0 t v) (h : DataW.Trod enc P w base spare held t v d p) {φ : Phi} {s : St} (hr : Ready X φ s w) :
    ∃ (φ' : Phi) (s' : St) (y : List e.T) (v' : Value), Ready X φ' s' w ∧ φ.le φ' ∧ Ext s s' ∧ VRel φ' v' v ∧ (TD.slice e).Enc s' y [v'] := by
  have hu : ∃ u, P.underlying t = some (.slice u) := by
    simp only [TD.fit, Bool.and_eq_true] at hf
    have := hf.1
    split at this
    · rename_i u hu; exact ⟨u, hu⟩
    · cases this
  obtain ⟨u, hu⟩ := hu
  obtain ⟨fuel, hfu⟩ := h
  obtain ⟨a, len, cap, rfl⟩ := okWide_slice hu hv
  cases a with
  | none =>
    obtain ⟨rfl, rfl⟩ : len = 0 ∧ cap = 0 := by
      simp only [Value.okWide, hu, Cell.okWide, Cell.ok] at hv
      cases len <;> cases cap <;> simp_all
    exact ⟨φ, s, [], _, hr, fun _ _ _ h => h, Ext.refl s, .nilSlice, .inl ⟨rfl, rfl⟩⟩
  | some a =>
    have hpos : 0 < w.heap.size := by
      simp only [Value.okWide, hu, Cell.okWide, Cell.ok] at hv
      have := has_lt hv.2.2
      omega
    obtain ⟨φ', s', y, cs', q1, q2, q3, q4, q5⟩ := openAt (X := X) hsp hpos (.slice e) (.inl t) hf fuel _ _ φ s hfu hr
    have e1 : (Value.slice (some a) len cap).cells.toList = [.slice (some a) len cap] := rfl
    rw [e1] at q4
    cases q4 with | cons v' _ l' _ k1 k2 =>
    cases k2
    exact ⟨φ', s', y, v', q1, q2, q3, k1, q5⟩
end
/-- A slice of flat things, to be read. -/
theorem enc_flat {e : TD} {s : St} {l : List e.T} {v : Value} (f : e.T → List Value) (wf : e.T → Prop) (hf : ∀ x cs, e.Enc s x cs → cs = f x ∧ wf x) (h : (TD.slice e).Enc s l [v]) : RoV s e.size v l.length (l.flatMap f) ∧ ∀ x ∈ l, wf x := by
  rcases h with ⟨h1, rfl⟩ | ⟨a, cap, cells, h1, h2, h3⟩
  · cases h1
    exact ⟨.nil, fun x hx => by cases hx⟩
  · cases h1
    obtain ⟨h2, hcap⟩ := h2
    have hlen := rd_len h2.rd
    have hfl : ∀ x ∈ l, (f x).length = e.size := fun x hx => by
      obtain ⟨i, hi⟩ := List.getElem?_of_mem hx
      obtain ⟨q1, _⟩ := hf x _ (h3 i x hi)
      rw [← q1, TD.Enc.length e x _ (h3 i x hi)]
    have hcells : cells = l.flatMap f := by
      have : ∀ j, j ≤ l.length → cells.take (j * e.size) = (l.take j).flatMap f := by
        intro j
        induction j with
        | zero => intro _; simp
        | succ j ih =>
          intro hj
          have hx := List.getElem?_eq_getElem (show j < l.length by omega)
          obtain ⟨q1, _⟩ := hf _ _ (h3 j _ hx)
          rw [Nat.succ_mul, List.take_add, ih (by omega), q1, List.take_add_one, hx, List.flatMap_append]
          simp
      have := this l.length (Nat.le_refl _)
      rw [List.take_length, ← hlen, List.take_length] at this
      exact this
    subst hcells
    exact ⟨.row a l.length cap _ h2 hcap, fun x hx => by
      obtain ⟨i, hi⟩ := List.getElem?_of_mem hx
      exact (hf x _ (h3 i x hi)).2⟩
theorem flatMap_one {α β : Type} (g : α → β) : ∀ l : List α, l.flatMap (fun x => [g x]) = l.map g
  | [] => rfl
  | x :: l => by rw [List.flatMap_cons, flatMap_one g l]; rfl
theorem enc_ints {k : IntKind} {s : St} {l : List Int} {v : Value} (h : (TD.slice (.int k)).Enc s l [v]) : RoV s 1 v l.length (l.map (.int k)) ∧ ∀ n ∈ l, (Lit.int k n).wf = true := by
  obtain ⟨h1, h2⟩ := enc_flat (e := .int k) (fun n : Int => [Value.int k n]) (fun n => (Lit.int k n).wf = true) (fun x cs h => h) h
  refine ⟨?_, h2⟩
  have this := flatMap_one (Value.int k) l
  rw [this] at h1
  exact h1
end Go.Proofs.Ytndedkpcfjnecaa.Ab
