/- Stores that grow, what is laid in them, and more rules. -/
import Derived.Test.YtndedkpcfjnecaaA22
set_option linter.unusedSimpArgs false
set_option linter.unusedVariables false
namespace Go.Proofs.Ytndedkpcfjnecaa.Ab

theorem evo_glob (ρ : Env) (g : Nat) : evo ρ (.global g) = .pointer (some ⟨g, 0, none⟩) := rfl
theorem one_ne_zero' : ¬ ((1 : Int) = 0) := by decide
theorem zero_ne_one' : ¬ ((0 : Int) = 1) := by decide
theorem Addr.fwd_zero (a : Addr) : Addr.fwd a 0 = a := rfl
theorem toNat_add_lit (n m : Nat) : ((n : Int) + (no_index (OfNat.ofNat m))).toNat = n + m := by
  show ((n : Int) + ((m : Nat) : Int)).toNat = n + m
  omega
theorem cast_zero' : ((0 : Nat) : Int) = 0 := rfl
theorem cast_lit (n : Nat) : ((no_index (OfNat.ofNat n) : Nat) : Int) = OfNat.ofNat n := rfl
theorem if_le {a b : Nat} (h : a ≤ b) {α : Type} {x y : α} : ite (a ≤ b) x y = x := if_pos h
theorem if_lt {a b : Nat} (h : a < b) {α : Type} {x y : α} : ite (a < b) x y = x := if_pos h
theorem if_no {p q : Prop} [Decidable (p ∧ q)] {α : Type} {a b : α} (h : ¬ (p ∧ q)) : ite (p ∧ q) a b = b := if_neg h

/-- The store has grown; what was there is as it was. -/
def Ext (s s' : St) : Prop := s.size ≤ s'.size ∧ ∀ b o, s.get b = some o → s'.get b = some o
theorem Ext.refl (s : St) : Ext s s := ⟨Nat.le_refl _, fun _ _ h => h⟩
theorem Ext.trans {s s1 s2 : St} (h : Ext s s1) (k : Ext s1 s2) : Ext s s2 := ⟨Nat.le_trans h.1 k.1, fun b o hb => k.2 b o (h.2 b o hb)⟩
theorem Ext.push (s : St) (o : AObj) : Ext s (s.push o) := ⟨by simp [St.size_push], fun b o' hb => by have := St.lt_of_get hb; rw [St.get_push, if_neg (by omega)]; exact hb⟩
theorem Ext.push' {s s1 : St} (h : Ext s s1) {o : AObj} : Ext s (s1.push o) := h.trans (Ext.push _ _)
theorem Ext.get {s s' : St} (h : Ext s s') {b : Nat} {o : AObj} (hb : s.get b = some o) : s'.get b = some o := h.2 b o hb
theorem rd_congr {s s' : St} {a : Addr} {n : Nat} {cs : List Value} (h : s.rd a n = some cs) (hg : s'.get a.block = s.get a.block) : s'.rd a n = some cs := by
  unfold St.rd at h ⊢
  rw [hg]; exact h
theorem rd_lt {s : St} {a : Addr} {n : Nat} {cs : List Value} (h : s.rd a n = some cs) : a.block < s.size := by
  unfold St.rd at h
  split at h
  · rename_i h1; exact St.lt_of_get h1
  · rename_i h1; exact St.lt_of_get h1
  · cases h
theorem rd_has {s : St} {a : Addr} {n : Nat} {cs : List Value} (h : s.rd a n = some cs) : ∃ o, s.get a.block = some o := by
  cases hb : s.get a.block with
  | none => unfold St.rd at h; rw [hb] at h; cases h
  | some o => exact ⟨o, rfl⟩
theorem Ext.rd {s s' : St} (h : Ext s s') {a : Addr} {n : Nat} {cs : List Value} (hr : s.rd a n = some cs) : s'.rd a n = some cs := by
  obtain ⟨o, ho⟩ := rd_has hr
  exact rd_congr hr (by rw [ho, h.get ho])
theorem Ext.keep {s s' : St} (h : Ext s s') : RoKeep s s' := ⟨h.1, fun b cs hb => h.get hb⟩
/-- A block above what was there, written. -/
theorem Ext.set {s s' : St} (h : Ext s s') {b : Nat} {o0 o : AObj} (hb : s.size ≤ b) (h0 : s'.get b = some o0) : Ext s (s'.set b o) :=
  ⟨h.1, fun c oc hc => by have := St.lt_of_get hc; rw [St.get_set h0, if_neg (by omega)]; exact h.2 c oc hc⟩

/-! What is laid -/
def LaidS (X : Prg) (s : St) : Prop := ∀ p ∈ X.laid, s.get p.1 = some (.ro p.2)
theorem LaidS.keep {X : Prg} {s s' : St} (h : LaidS X s) (k : RoKeep s s') : LaidS X s' := fun p hp => k.2 _ _ (h p hp)
theorem LaidS.ext {X : Prg} {s s' : St} (h : LaidS X s) (k : Ext s s') : LaidS X s' := h.keep k.keep
theorem plainEqs_refl : ∀ (l : List Value), l.all plainV = true → plainEqs l l = true
  | [], _ => rfl
  | v :: l, h => by
    rw [List.all_cons, Bool.and_eq_true] at h
    simp only [plainEqs, plainEqs_refl l h.2, Bool.and_true]
    have := h.1
    cases v <;> simp_all [plainV, plainEq]
theorem LaidS.ok {X : Prg} {s : St} {G : Nat} (hw : laidWell G X = true) (h : LaidS X s) : laidOk X s = true := by
  unfold laidOk
  rw [List.all_eq_true]
  intro p hp
  rw [h p hp]
  have := List.all_eq_true.1 hw p hp
  rw [Bool.and_eq_true] at this
  exact plainEqs_refl _ this.2
theorem LaidS.rd {X : Prg} {s : St} (h : LaidS X s) {g : Nat} {cs : List Value} (hp : (g, cs) ∈ X.laid) {i : Nat} {v : Value} (hi : cs[i]? = some v) : s.rd (Addr.fwd ⟨g, 0, none⟩ i) 1 = some [v] := by
  have h1 := h _ hp
  have hl : i < cs.length := by
    rcases Nat.lt_or_ge i cs.length with h2 | h2
    · exact h2
    · rw [List.getElem?_eq_none h2] at hi; cases hi
  unfold St.rd Addr.fwd
  simp only at h1 ⊢
  rw [h1]
  simp only [Nat.zero_add]
  rw [if_pos ⟨rfl, by omega⟩, List.drop_eq_getElem_cons hl]
  rw [List.getElem?_eq_getElem hl] at hi
  cases hi
  rfl
theorem layT_own : ∀ (l : List (Nat × List Value)) (t : Tr AObj) (g : Nat) (cs : List Value), (g, cs) ∈ l → (∀ p ∈ l, p.1 = g → p.2 = cs) → (layT l t).get g = some (.ro cs)
  | [], _, _, _, h, _ => by cases h
  | p :: l, t, g, cs, h, hu => by
    simp only [layT]
    by_cases hin : ∃ q ∈ l, q.1 = g
    · obtain ⟨q, h1, h2⟩ := hin
      have : q = (g, cs) := by
        have := hu q (List.mem_cons_of_mem _ h1) h2
        cases q; simp_all
      subst this
      exact layT_own l _ g cs h1 fun p hp => hu p (List.mem_cons_of_mem _ hp)
    · have hp : p = (g, cs) := by
        rcases List.mem_cons.1 h with h1 | h1
        · exact h1.symm
        · exact absurd ⟨_, h1, rfl⟩ hin
      have go : ∀ (l : List (Nat × List Value)) (t : Tr AObj), (∀ q ∈ l, q.1 ≠ g) → (layT l t).get g = t.get g := by
        intro l
        induction l with
        | nil => intro t _; rfl
        | cons q l ih =>
          intro t hq
          simp only [layT]
          rw [ih _ fun r hr => hq r (List.mem_cons_of_mem _ hr), Tr.get_set, if_neg (hq q List.mem_cons_self)]
      rw [go l _ fun q hq h2 => hin ⟨q, hq, h2⟩, hp, Tr.get_set, if_pos rfl]
def laidOnce : List (Nat × List Value) → Bool
  | [] => true
  | p :: l => l.all (fun q => q.1 != p.1) && laidOnce l
theorem laidOnce_ok : ∀ (l : List (Nat × List Value)), laidOnce l = true → ∀ p ∈ l, ∀ q ∈ l, q.1 = p.1 → q.2 = p.2
  | [], _, p, hp, _, _, _ => by cases hp
  | r :: l, h, p, hp, q, hq, he => by
    simp only [laidOnce, Bool.and_eq_true] at h
    have h1 := List.all_eq_true.1 h.1
    rcases List.mem_cons.1 hp with e1 | hp2
    · rcases List.mem_cons.1 hq with e2 | hq2
      · rw [e1, e2]
      · have := h1 q hq2; simp at this; rw [e1] at he; exact absurd he this
    · rcases List.mem_cons.1 hq with e2 | hq2
      · have := h1 p hp2; simp at this; rw [e2] at he; exact absurd he.symm this
      · exact laidOnce_ok l h.2 p hp2 q hq2 he
theorem LaidS.start {X : Prg} {G : Nat} (hw : laidWell G X = true) (ho : laidOnce X.laid = true) : LaidS X (startS G X) := by
  intro p hp
  have := laidWell_lt hw p hp
  unfold St.get startS
  rw [if_pos this]
  exact layT_own _ _ _ _ hp fun q hq he => laidOnce_ok _ ho p hp q hq he

/-- What a function answers of plain values, wherever it is called, is known of it. -/
theorem known_of_WC {X : Prg} {P : Program} (H : SoundF X P) {G : Nat} (hw : laidWell G X = true) {f : Nat} {args : List Value} {v : Value} (ha : args.all plainV = true) (hv : cstOk 4 v = true) (h : WC X f args (startS G X) fun r _ => r = v) :
    (∃ fn, P.funcs[f]? = some fn ∧ fn.body.isSome = true ∧ (fn.name == "runtime.NumGoroutine") = false) ∧ ∀ w, LaidIn X.laid w → Calls P f args.toArray w fun e w' => e = .returned v ∧ Grow w w' := by
  obtain ⟨n, v', s', h, rfl⟩ := h
  refine ⟨(enter_ok H (exec_all H n).1 f args _ v' s' h).2.1, fun w hl => ?_⟩
  have hrd := Ready.start (laidWell_lt hw) (laidWell_plain hw) hl
  have hself : VRels (startP X) args args.toArray.toList := by
    refine VRels.self _ fun u hu => ?_
    have := List.all_eq_true.1 ha u (by simpa using hu)
    cases u <;> first | exact .bool _ | exact .int _ _ | exact .string _ | (simp [plainV] at this; done)
  refine (acall_sound H h hself hrd.glob hrd.rel (fun b e h1 _ => hrd.fresh b e h1)).mono ?_
  rintro e w' ⟨φ', v2, rfl, hr, hs, st⟩
  have : v2 = v' := by
    have : ∀ (m : Nat) (u u' : Value), cstOk m u = true → VRel φ' u u' → u' = u := by
      intro m
      induction m with
      | zero =>
        intro u u' hc hr
        cases hr <;> first | rfl | (simp [cstOk] at hc; done)
      | succ m ih =>
        have ihs : ∀ (l l' : List Value), l.all (cstOk m) = true → VRels φ' l l' → l' = l := by
          intro l
          induction l with
          | nil => intro l' _ hr; cases hr; rfl
          | cons u l ihl =>
            intro l' hc hr
            simp only [List.all_cons, Bool.and_eq_true] at hc
            cases hr with | cons _ u' _ l' h1 h2 =>
            rw [ih _ _ hc.1 h1, ihl _ hc.2 h2]
        intro u u' hc hr
        cases hr <;> first
          | rfl
          | (simp [cstOk] at hc; done)
          | (rename_i hrs; have := ihs _ _ (by simpa [cstOk] using hc) hrs; rw [Array.toList_inj.1 this])
          | (rename_i hrs; rw [ih _ _ (by simpa [cstOk] using hc) hrs])
    exact this 4 v' v2 hv hr
  subst this
  exact ⟨rfl, st.os, st.tape, st.output, st.wsize, fun c hc => st.frm c hc fun b e l hb _ => hrd.ro b e l hb⟩
/-- Closed calls that answer true, where something is known already. -/
theorem knows_more {X0 : Prg} {P : Program} {k : Nat → List Value → Option Value} (H : SoundF (X0.knowing k) P) {G : Nat} (hw : laidWell G X0 = true) {l : List Nat} (h : ∀ f ∈ l, awk G (X0.knowing k) f = true) : Knows P X0.laid (knL l) :=
  knows_knL H (X := X0.knowing k) hw h

/-! Records, from three cells -/
def tri : List Value → List (Int × Int × Int)
  | .int _ a :: .int _ b :: .int _ c :: l => (a, b, c) :: tri l
  | _ => []
def enc3 (k : IntKind) (p : Int × Int × Int) : List Value := [.int k p.1, .int k p.2.1, .int k p.2.2]
def two : List Value → List (Int × Int)
  | .int _ a :: .int _ b :: l => (a, b) :: two l
  | _ => []
def enc2 (k : IntKind) (p : Int × Int) : List Value := [.int k p.1, .int k p.2]
end Go.Proofs.Ytndedkpcfjnecaa.Ab
