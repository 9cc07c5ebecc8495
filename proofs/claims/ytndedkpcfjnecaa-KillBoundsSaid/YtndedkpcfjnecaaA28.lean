/- Slices that are read, by the kind of their block; what changes leave. -/
import Derived.Test.YtndedkpcfjnecaaA27
set_option linter.unusedSimpArgs false
set_option linter.unusedVariables false
namespace Go.Proofs.Ytndedkpcfjnecaa.Ab

/-- A block that holds a row of such elements, or what may not be written. -/
def Kindly (s : St) (e b : Nat) : Prop := (∃ all, s.get b = some (.ro all)) ∨ ∃ r : Row, s.get b = some (.own r) ∧ r.elem = e
inductive Sl (s : St) (e k : Nat) : Value → Nat → List Value → Prop
  | nil : Sl s e k (.slice none 0 0) 0 []
  | row (a : Addr) (n cap : Nat) (cs : List Value) : s.rd a (n * k) = some cs → Kindly s e a.block → n ≤ cap / 2 → Sl s e k (.slice (some a) n cap) n cs
/-- What is left as it was, but for rows of some elements, and maps. -/
def quiet (ts : List Nat) : AObj → Bool
  | .ro _ => true
  | .own r => !ts.contains r.elem
  | .map _ _ => false
  | .iter _ _ => true
def Fr (ts : List Nat) (s s' : St) : Prop := s.size ≤ s'.size ∧ ∀ b o, s.get b = some o → quiet ts o = true → s'.get b = some o
theorem Fr.refl (ts : List Nat) (s : St) : Fr ts s s := ⟨Nat.le_refl _, fun _ _ h _ => h⟩
theorem Fr.trans {ts : List Nat} {s s1 s2 : St} (h : Fr ts s s1) (k : Fr ts s1 s2) : Fr ts s s2 := ⟨Nat.le_trans h.1 k.1, fun b o hb hq => k.2 b o (h.2 b o hb hq) hq⟩
theorem Ext.fr {s s' : St} (h : Ext s s') (ts : List Nat) : Fr ts s s' := ⟨h.1, fun b o hb _ => h.get hb⟩
theorem Fr.push {ts : List Nat} {s s' : St} (h : Fr ts s s') (o : AObj) : Fr ts s (s'.push o) := h.trans ((Ext.push s' o).fr ts)
theorem Fr.set {ts : List Nat} {s s' : St} (h : Fr ts s s') {b : Nat} {o0 o : AObj} (h0 : s'.get b = some o0) (hq : quiet ts o0 = false) : Fr ts s (s'.set b o) :=
  ⟨h.1, fun c oc hc hqc => by
    have := h.2 c oc hc hqc
    rw [St.get_set h0]
    split
    · rename_i e; subst e; rw [this] at h0; cases h0; rw [hqc] at hq; cases hq
    · exact this⟩
theorem Fr.laid {X : Prg} {ts : List Nat} {s s' : St} (h : Fr ts s s') (hl : LaidS X s) : LaidS X s' := fun p hp => h.2 _ _ (hl p hp) rfl
theorem Kindly.fr {s s' : St} {e b : Nat} {ts : List Nat} (h : Kindly s e b) (f : Fr ts s s') (he : ts.contains e = false) : Kindly s' e b ∧ s'.get b = s.get b := by
  rcases h with ⟨all, h⟩ | ⟨r, h, hr⟩
  · have := f.2 _ _ h rfl
    exact ⟨.inl ⟨all, this⟩, by rw [this, h]⟩
  · have := f.2 _ _ h (by show (!ts.contains r.elem) = true; rw [hr, he]; rfl)
    exact ⟨.inr ⟨r, this, hr⟩, by rw [this, h]⟩
theorem Sl.fr {s s' : St} {e k n : Nat} {v : Value} {cs : List Value} {ts : List Nat} (h : Sl s e k v n cs) (f : Fr ts s s') (he : ts.contains e = false) : Sl s' e k v n cs := by
  cases h with
  | nil => exact .nil
  | row a n cap cs h1 h2 hc =>
    obtain ⟨h3, h4⟩ := h2.fr f he
    exact .row a n cap cs (rd_congr h1 h4) h3 hc
theorem Sl.ext {s s' : St} {e k n : Nat} {v : Value} {cs : List Value} (h : Sl s e k v n cs) (f : Ext s s') : Sl s' e k v n cs := h.fr (f.fr []) rfl
theorem Sl.len {s : St} {e k n : Nat} {v : Value} {cs : List Value} (h : Sl s e k v n cs) {X : Prg} {t e1 b c : Nat} {z : Value} (ht : X.ty t = some ⟨.slice e1, b, c, z⟩) (s2 : St) : lenv X t v s2 = some (n : Int) := by
  cases h <;> simp [lenv, ht]
theorem Sl.self {s : St} {e k n : Nat} {v : Value} {cs : List Value} (h : Sl s e k v n cs) : aeqSelf v = True := by cases h <;> exact aeqSelf_slice
theorem Sl.cells {s : St} {e k n : Nat} {v : Value} {cs : List Value} (h : Sl s e k v n cs) : v.cells = #[v] := by cases h <;> rfl
theorem Sl.one {s : St} {e k n : Nat} {v : Value} {cs : List Value} (h : Sl s e k v n cs) : v.oneCell' = true := by cases h <;> rfl
theorem Sl.clen {s : St} {e k n : Nat} {v : Value} {cs : List Value} (h : Sl s e k v n cs) : cs.length = n * k := by
  cases h with
  | nil => simp
  | row a n cap cs h1 h2 hc => exact rd_len h1
theorem Sl.pos {s : St} {e k n : Nat} {v : Value} {cs : List Value} (h : Sl s e k v n cs) (hn : 0 < n) : ∃ a cap, v = .slice (some a) n cap ∧ s.rd a (n * k) = some cs ∧ Kindly s e a.block := by
  cases h with
  | nil => omega
  | row a n cap cs h1 h2 hc => exact ⟨a, cap, rfl, h1, h2⟩
theorem RoV.sl {s : St} {e k n : Nat} {v : Value} {cs : List Value} (h : RoV s k v n cs) : Sl s e k v n cs := by
  cases h with
  | nil => exact .nil
  | row a n cap cs h hc => exact .row a n cap cs h.rd (.inl h.1) hc
theorem Tip.sl {s : St} {e k n : Nat} {v : Value} {cs : List Value} (h : Tip s e k v cs n) : Sl s e k v n cs := by
  cases h with
  | nil => exact .nil
  | row b sp cs n h1 h2 =>
    refine .row _ _ _ _ ?_ (.inr ⟨_, h1, rfl⟩) (by simp only [capO]; omega)
    unfold St.rd
    simp only [h1, ep]
    rw [if_pos ⟨trivial, by omega⟩, List.drop_zero, List.take_of_length_le (by omega)]
/-- What stands behind 'append(x, ..)' where x is such a slice. -/
theorem Sl.newv {s : St} {e k n : Nat} {v : Value} {cs : List Value} (h : Sl s e k v n cs) {X : Prg} {t1 e1 : Nat} {te : Ty} (hu : X.und t1 = some (.slice e1)) (hk : te.size = k) : newv X t1 te v s = some (n, cs) := by
  subst hk
  cases h with
  | nil => simp [Ab.newv, hu, lenOfv, firstv]
  | row a n cap cs h1 h2 hc => simp [Ab.newv, hu, lenOfv, firstv, h1]
/-- A part of a slice. -/
def boundI (o : Option Value) (d : Nat) : Option Nat := match o with | none => some d | some (.int _ i) => if 0 ≤ i then some i.toNat else none | some _ => none
theorem Sl.sub {s : St} {e k n : Nat} {v : Value} {cs : List Value} (h : Sl s e k v n cs) {X : Prg} {t : Nat} {te : Ty} {b c : Nat} {z : Value} (ht : X.ty t = some ⟨.slice e, b, c, z⟩) (he : X.ty e = some te) (hk : te.size = k) {lo hi : Option Value} {l m : Nat}
    (hlo : boundI lo 0 = some l) (hhi : boundI hi n = some m) (hlm : l ≤ m) (hmn : m ≤ n) : ∃ v', sliceOp X t v lo hi none = some v' ∧ Sl s e k v' (m - l) ((cs.drop (l * k)).take ((m - l) * k)) ∧ (v' = .slice none 0 0 → v = .slice none 0 0) := by
  have hbd : ∀ (o : Option Value) (d j y : Nat), boundI o d = some j → j ≤ y → bnd o d y = some j := by
    intro o d j y h1 h2
    unfold boundI at h1
    unfold bnd
    split at h1
    · exact h1
    · rename_i kk i
      split at h1
      · rename_i hi
        cases h1
        simp only
        rw [if_pos ⟨hi, by omega⟩]
      · cases h1
    · cases h1
  cases h with
  | nil =>
    obtain rfl : m = 0 := by omega
    obtain rfl : l = 0 := by omega
    refine ⟨.slice none 0 0, ?_, by simpa using Sl.nil, fun _ => rfl⟩
    simp only [sliceOp, ht, he]
    simp [hbd hi 0 0 0 hhi (Nat.le_refl _), hbd lo 0 0 0 hlo (Nat.le_refl _)]
  | row a n cap cs h1 h2 hc =>
    refine ⟨.slice (some (Addr.fwd a (l * k))) (m - l) (if cap % 2 = 1 then capX (cap / 2 - l) else capO (cap / 2 - l)), ?_, .row _ _ _ _ ?_ h2 ?_, fun e => by cases e⟩
    · simp only [sliceOp, ht, he]
      rw [hbd hi n m (cap / 2) hhi (by omega)]
      simp only
      rw [hbd lo 0 l m hlo hlm]
      simp only [hk]
    · refine rd_fwd h1 ?_
      rw [← Nat.add_mul]
      exact Nat.mul_le_mul_right _ (by omega)
    · split
      · simp only [capX]; omega
      · simp only [capO]; omega
/-- A slice of one's own that is appended to: nothing, an empty one without room, or one that grows at its end. -/
inductive Gr (s : St) (e k : Nat) : Value → List Value → Nat → Prop
  | tip (v : Value) (cs : List Value) (n : Nat) : Tip s e k v cs n → Gr s e k v cs n
  | emp (b : Nat) (r : Row) : s.get b = some (.own r) → r.elem = e → r.ep = 0 → Gr s e k (.slice (some ⟨b, 0, none⟩) 0 (capX 0)) [] 0
theorem Gr.sl {s : St} {e k n : Nat} {v : Value} {cs : List Value} (h : Gr s e k v cs n) : Sl s e k v n cs := by
  cases h with
  | tip v cs n h => exact h.sl
  | emp b r h1 h2 h3 =>
    refine .row _ _ _ _ ?_ (.inr ⟨r, h1, h2⟩) (Nat.zero_le _)
    unfold St.rd
    simp only [h1, ep, h3]
    simp
theorem Gr.append {s : St} {e k n m : Nat} {v : Value} {cs vs : List Value} {te : Ty} (h : Gr s e k v cs n) (hk : te.size = k) (hl : vs.length = m * k) (hroom : roomOk (n + m) te.bytes = true) (h1 : vs.all Value.oneCell' = true) :
    ∃ v' s', appendTo te e m vs v s = some (v', s') ∧ Gr s' e k v' (cs ++ vs) (n + m) ∧ Rest s s' v ∧ (v' = .slice none 0 0 → v = .slice none 0 0 ∧ m = 0) := by
  by_cases hm : m = 0
  · subst hm
    have : vs = [] := List.eq_nil_of_length_eq_zero (by omega)
    subst this
    refine ⟨v, s, ?_, by simpa using h, ⟨Nat.le_refl _, fun _ _ hb _ => hb⟩, fun e => ⟨e, rfl⟩⟩
    cases h with
    | tip v cs n h => cases h <;> simp [appendTo]
    | emp b r h1 h2 h3 => simp [appendTo]
  · cases h with
    | tip v cs n h =>
      obtain ⟨v', s', q1, q2, q3, _⟩ := Tip.append h hk hl hm hroom h1
      refine ⟨v', s', q1, .tip _ _ _ q2, q3, fun e => ?_⟩
      rw [e] at q2
      have hn : n + m = 0 := by
        generalize n + m = j at q2
        generalize cs ++ vs = c2 at q2
        cases q2; rfl
      omega
    | emp b r h2 h3 h4 =>
      refine ⟨.slice (some ⟨s.size, 0, none⟩) (0 + m) (capO (0 + m)), s.push (.own ⟨[] ++ vs, e, 0, 0, false⟩), ?_, ?_, ⟨by simp [St.size_push], fun c o hc _ => (Ext.push s _).get hc⟩, fun e => by cases e⟩
      · have e1 : ¬ (0 + m ≤ capX 0 / 2) := by simp [capX]; omega
        have e2 : capX 0 % 2 = 1 := rfl
        have hrd : s.rd ⟨b, 0, none⟩ (0 * te.size) = some [] := by
          unfold St.rd
          simp only [h2, ep, h4]
          simp
        simp only [appendTo, if_neg hm, if_neg e1, if_pos e2, if_pos hroom, hrd]
      · exact .tip _ _ _ (.row _ none _ _ (by rw [St.get_push, if_pos rfl]; rfl) (by simpa using hl))
/-- All but a new one's block is as it was. -/
theorem Rest.ext {s0 s s' : St} {v : Value} (h : Rest s s' v) (hx : Ext s0 s) (hv : ∀ a n c, v = .slice (some a) n c → s0.size ≤ a.block) : Ext s0 s' := by
  refine ⟨Nat.le_trans hx.1 h.1, fun b o hb => h.2 b o (hx.get hb) fun a n c hv' hab => ?_⟩
  have h1 := hv a n c hv'
  have h2 := St.lt_of_get hb
  omega
/-- Nothing, or a slice of a block that came since. -/
def Own (s0 : St) (v : Value) : Prop := ∀ a n c, v = .slice (some a) n c → s0.size ≤ a.block
theorem Own.nil {s0 : St} : Own s0 (.slice none 0 0) := fun a n c h => by cases h
theorem Own.mk {s0 : St} {a : Addr} {n c : Nat} (h : s0.size ≤ a.block) : Own s0 (.slice (some a) n c) := fun a' n' c' e => by cases e; exact h
theorem appendTo_own {te : Ty} {e n : Nat} {vs : List Value} {x v' : Value} {s s' s0 : St} (h : appendTo te e n vs x s = some (v', s')) (hs : s0.size ≤ s.size) (hx : Own s0 x) : Own s0 v' := by
  unfold appendTo at h
  split at h
  · repeat' split at h
    all_goals first
      | (cases h; done)
      | (cases h; exact Own.nil)
      | (cases h; exact Own.mk hs)
  · rename_i a len cap
    have hb := hx a len cap rfl
    repeat' split at h
    all_goals first
      | (cases h; done)
      | (cases h; exact Own.mk hb)
      | (cases h; exact Own.mk hs)
  · cases h
theorem Gr.ext {s s' : St} {e k n : Nat} {v : Value} {cs : List Value} (h : Gr s e k v cs n) (x : Ext s s') : Gr s' e k v cs n := by
  cases h with
  | tip v cs n h => cases h with
    | nil => exact .tip _ _ _ .nil
    | row b sp cs n h1 h2 => exact .tip _ _ _ (.row b sp cs n (x.get h1) h2)
  | emp b r h1 h2 h3 => exact .emp b r (x.get h1) h2 h3
theorem Gr.pos {s : St} {e k n : Nat} {v : Value} {cs : List Value} (h : Gr s e k v cs n) (hn : 0 < n) : ∃ b sp, v = .slice (some ⟨b, 0, sp⟩) n (capO n) ∧ s.get b = some (.own ⟨cs, e, sp.getD 0, 0, false⟩) ∧ cs.length = n * k := by
  cases h with
  | tip v cs n h => cases h with
    | nil => omega
    | row b sp cs n h1 h2 => exact ⟨b, sp, rfl, h1, h2⟩
  | emp b r h1 h2 h3 => omega
theorem Gr.block {s : St} {e k n : Nat} {a : Addr} {len c : Nat} {cs : List Value} (h : Gr s e k (.slice (some a) len c) cs n) : ∃ r : Row, s.get a.block = some (.own r) ∧ r.elem = e := by
  cases h with
  | tip v cs n h => cases h with | row b sp cs n h1 h2 => exact ⟨_, h1, rfl⟩
  | emp b r h1 h2 h3 => exact ⟨r, h1, h2⟩
theorem Rest.fr {s s' : St} {e k n : Nat} {v : Value} {cs : List Value} (h : Rest s s' v) (hg : Gr s e k v cs n) : Fr [e] s s' := by
  refine ⟨h.1, fun b o hb hq => h.2 b o hb fun a m c hv hab => ?_⟩
  subst hv
  obtain ⟨r, h1, h2⟩ := hg.block
  rw [hab, hb] at h1
  cases h1
  simp [quiet, h2] at hq
theorem append_gr {X : Prg} {s : St} {t t1 e e1 e2 k n m : Nat} {te : Ty} {x y : Value} {cs vs : List Value} (hu : X.und t = some (.slice e)) (hte : X.ty e = some te) (hu1 : X.und t1 = some (.slice e1)) (hk : te.size = k)
    (hg : Gr s e k x cs n) (hy : Sl s e2 k y m vs) (hroom : roomOk (n + m) te.bytes = true) (h1 : vs.all Value.oneCell' = true) :
    ∃ v' s', appendv X #[t, t1] x y s = some (v', s') ∧ Gr s' e k v' (cs ++ vs) (n + m) ∧ (∀ s0, Ext s0 s → Own s0 x → Ext s0 s' ∧ Own s0 v') ∧ Fr [e] s s' ∧ (v' = .slice none 0 0 → x = .slice none 0 0 ∧ m = 0) := by
  obtain ⟨v', s', q1, q2, q3, q4⟩ := Gr.append hg hk hy.clen hroom h1
  refine ⟨v', s', ?_, q2, fun s0 hx ho => ⟨q3.ext hx ho, appendTo_own q1 hx.1 ho⟩, q3.fr hg, q4⟩
  have e0 : (#[t, t1] : Array TypeId)[0]? = some t := rfl
  have e2 : (#[t, t1] : Array TypeId)[1]? = some t1 := rfl
  simp only [appendv, e0, e2, hu, hte, hy.newv hu1 hk]
  exact q1
theorem Gr.new {s : St} {e k : Nat} : Gr (s.push (.own ⟨[], e, 0, 0, false⟩)) e k (.slice (some ⟨s.size, 0, none⟩) 0 (capX 0)) [] 0 := .emp _ ⟨[], e, 0, 0, false⟩ (by rw [St.get_push, if_pos rfl]) rfl rfl
theorem Gr.none {s : St} {e k : Nat} : Gr s e k (.slice none 0 0) [] 0 := .tip _ _ _ .nil
theorem appendv_to {X : Prg} {s : St} {t t1 e e1 e2 k m : Nat} {te : Ty} {x y : Value} {vs : List Value} (hu : X.und t = some (.slice e)) (hte : X.ty e = some te) (hu1 : X.und t1 = some (.slice e1)) (hk : te.size = k) (hy : Sl s e2 k y m vs) : appendv X #[t, t1] x y s = appendTo te e m vs x s := by
  have e0 : (#[t, t1] : Array TypeId)[0]? = some t := rfl
  have e2 : (#[t, t1] : Array TypeId)[1]? = some t1 := rfl
  simp only [appendv, e0, e2, hu, hte, hy.newv hu1 hk]
/-- 'append' where there is room. -/
theorem append_room {te : Ty} {e k d m cap r : Nat} {b : Nat} {dn zs vs : List Value} {s : St} (hg : s.get b = some (.own ⟨dn ++ zs, e, 0, 0, false⟩)) (hk : te.size = k) (hd : dn.length = d * k) (hz : zs.length = r * k) (hv : vs.length = m * k) (hmr : m ≤ r) (hc : d + m ≤ cap / 2) (h1 : vs.all Value.oneCell' = true) :
    ∃ s2, appendTo te e m vs (.slice (some ⟨b, 0, none⟩) d cap) s = some (.slice (some ⟨b, 0, none⟩) (d + m) cap, s2) ∧ s2.get b = some (.own ⟨(dn ++ vs) ++ zs.drop (m * k), e, 0, 0, false⟩) ∧ (∀ c, c ≠ b → s2.get c = s.get c) ∧ s2.size = s.size := by
  by_cases hm : m = 0
  · subst hm
    have : vs = [] := List.eq_nil_of_length_eq_zero (by omega)
    subst this
    exact ⟨s, by simp [appendTo], by simpa using hg, fun _ _ => rfl, rfl⟩
  · have hmk : m * k ≤ r * k := Nat.mul_le_mul_right _ hmr
    refine ⟨s.set b (.own ⟨over (dn ++ zs) (d * k) vs, e, 0, 0, false⟩), ?_, ?_, fun c hc => get_set_ne hc, rfl⟩
    · have hw : s.wr (Addr.fwd ⟨b, 0, none⟩ (d * te.size)) vs = some (s.set b (.own ⟨over (dn ++ zs) (d * k) vs, e, 0, 0, false⟩)) := by
        subst hk
        unfold St.wr Addr.fwd
        simp only [hg, Nat.zero_add]
        rw [if_pos]
        refine ⟨rfl, ?_, Nat.zero_le _, trivial, h1⟩
        rw [List.length_append, hd, hz, hv]; omega
      simp only [appendTo, if_neg hm, if_pos hc, hw]
    · rw [get_set_eq rfl (St.lt_of_get hg)]
      congr 3
      unfold over
      rw [List.take_left' hd, hv, ← hd]
      simp [List.drop_append]
/-! Rows of a few values of one cell -/
theorem bslice_one {X : Prg} {t e : Nat} {ρ : Env} {s : St} {te : Ty} {x : Operand} {v z : Value} (hu : X.und t = some (.slice e)) (hte : X.ty e = some te) (hz : te.size = 1 ∧ te.zero.cells = #[z]) (hv : evo ρ x = v) (hc : v.cells = #[v]) :
    bsliceP X t 1 ρ #[(0, x)] s = some (.slice (some ⟨s.size, 0, none⟩) 1 (capX 1), s.push (.own ⟨[v], e, 0, 0, false⟩)) := by
  rw [bsliceP_eq]
  unfold bslicev evParts
  simp [hu, hte, hz.1, hz.2, hv, reps, fill_list, fillL_cons, fillL_nil, fillO_some, hc, over]
theorem bslice_two {X : Prg} {t e : Nat} {ρ : Env} {s : St} {te : Ty} {x y : Operand} {v w z : Value} (hu : X.und t = some (.slice e)) (hte : X.ty e = some te) (hz : te.size = 1 ∧ te.zero.cells = #[z]) (hv : evo ρ x = v) (hc : v.cells = #[v]) (hw : evo ρ y = w) (hd : w.cells = #[w]) :
    bsliceP X t 2 ρ #[(0, x), (1, y)] s = some (.slice (some ⟨s.size, 0, none⟩) 2 (capX 2), s.push (.own ⟨[v, w], e, 0, 0, false⟩)) := by
  rw [bsliceP_eq]
  unfold bslicev evParts
  simp [hu, hte, hz.1, hz.2, hv, hw, reps, fill_list, fillL_cons, fillL_nil, fillO_some, hc, hd, over]
end Go.Proofs.Ytndedkpcfjnecaa.Ab
