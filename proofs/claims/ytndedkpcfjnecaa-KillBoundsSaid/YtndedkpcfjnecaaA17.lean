/- A seat's tables are what its program says: out of a few closed checks. -/
import Derived.Test.YtndedkpcfjnecaaA16
set_option linter.unusedSimpArgs false
set_option linter.unusedVariables false
namespace Go.Proofs.Ytndedkpcfjnecaa.Ab

def Tr.kvs {α : Type} : Tr α → (Nat → Nat) → List (Nat × α)
  | .nil, _ => []
  | .node o l r, f => (match o with | some v => [(f 0, v)] | none => []) ++ (l.kvs (fun i => f (2 * i + 1)) ++ r.kvs (fun i => f (2 * i + 2)))
theorem Tr.mem_kvs {α : Type} : ∀ (t : Tr α) (f : Nat → Nat) (i : Nat) (v : α), t.get i = some v → (f i, v) ∈ t.kvs f
  | .nil, f, i, v, h => by simp [Tr.get] at h
  | .node o l r, f, i, v, h => by
    simp only [Tr.get] at h
    simp only [Tr.kvs, List.mem_append]
    split at h
    · rename_i hi; subst hi; subst h; simp
    · split at h
      · have := Tr.mem_kvs l (fun i => f (2 * i + 1)) _ v h
        have e : 2 * (i / 2) + 1 = i := by omega
        simp only [e] at this
        exact .inr (.inl this)
      · have := Tr.mem_kvs r (fun i => f (2 * i + 2)) _ v h
        have e : 2 * ((i - 1) / 2) + 2 = i := by omega
        simp only [e] at this
        exact .inr (.inr this)
theorem all_of_map {α β : Type} {l : List α} {f g : α → β} (h : l.map f = l.map g) : ∀ x ∈ l, f x = g x := by
  induction l with
  | nil => intro x hx; cases hx
  | cons y l ih =>
    simp only [List.map_cons, List.cons.injEq] at h
    intro x hx
    rcases List.mem_cons.1 hx with rfl | hx
    · exact h.1
    · exact ih h.2 x hx

def zeroOk (ty : Ty) : Bool := cstOk 2 ty.zero && ty.zero.cells.size == ty.size && (ty.agg || ty.size == 1)
def funOk (X : Prg) (fn : Func) : Bool := match fn.body with | some c => codeOk X fn.ntmps c | none => true

theorem soundF_of {P : Program} (tys : Tr Ty) (fns : Tr Func) (eqts : Tr Unit) (laid : List (Nat × List Value))
    (hund : (tys.kvs id).map (fun p => P.underlying p.1) = (tys.kvs id).map (fun p => some p.2.und))
    (hinfo : (tys.kvs id).map (fun p => (P.info? p.1).map fun i => (i.size, i.bytes, i.zero)) = (tys.kvs id).map (fun p => some (p.2.size, p.2.bytes, some p.2.zero)))
    (hzero : (tys.kvs id).all (fun p => zeroOk p.2) = true)
    (hheld : (eqts.kvs id).all (fun p => !P.stoodInHeld p.1) = true)
    (hguard : (eqts.kvs id).all (fun p => !P.eqGuardType P.depth p.1) = true)
    (hfn : (fns.kvs id).map (fun p => P.funcs[p.1]?) = (fns.kvs id).map (fun p => some p.2))
    (hname : (fns.kvs id).all (fun p => !(p.2.name == "runtime.NumGoroutine")) = true)
    (hcode : (fns.kvs id).all (fun p => funOk ⟨tys.get, fns.get, fun t => (eqts.get t).isSome, laid, fun _ _ => none⟩ p.2) = true)
    (hmixed : P.follows .mixedOrders = true) :
    SoundF ⟨tys.get, fns.get, fun t => (eqts.get t).isSome, laid, fun _ _ => none⟩ P where
  und t ty h := all_of_map hund _ (Tr.mem_kvs tys id t ty h)
  info t ty h := by
    have := all_of_map hinfo _ (Tr.mem_kvs tys id t ty h)
    simp only [id, Option.map_eq_some_iff, Prod.mk.injEq] at this
    obtain ⟨i, h1, h2, h3, h4⟩ := this
    exact ⟨i, h1, h2, h3, h4⟩
  zero t ty h := by
    have := List.all_eq_true.1 hzero _ (Tr.mem_kvs tys id t ty h)
    simp only [zeroOk, Bool.and_eq_true, beq_iff_eq, Bool.or_eq_true] at this
    refine ⟨this.1.1, this.1.2, fun ha => ?_⟩
    rcases this.2 with h1 | h1
    · rw [ha] at h1; cases h1
    · exact h1
  held t h := by
    obtain ⟨u, hu⟩ := Option.isSome_iff_exists.1 h
    simpa using List.all_eq_true.1 hheld _ (Tr.mem_kvs eqts id t u hu)
  guard t h := by
    obtain ⟨u, hu⟩ := Option.isSome_iff_exists.1 h
    simpa using List.all_eq_true.1 hguard _ (Tr.mem_kvs eqts id t u hu)
  fn f fn h := all_of_map hfn _ (Tr.mem_kvs fns id f fn h)
  name f fn h := by simpa using List.all_eq_true.1 hname _ (Tr.mem_kvs fns id f fn h)
  code f fn c h hc := by
    have := List.all_eq_true.1 hcode _ (Tr.mem_kvs fns id f fn h)
    simpa [funOk, hc] using this
  mixed := hmixed
  knows f args v h := by cases h

/-- More is known. -/
def Prg.knowing (X : Prg) (k : Nat → List Value → Option Value) : Prg := ⟨X.ty, X.fn, X.eqs, X.laid, k⟩
theorem codeOk_knowing (X : Prg) (k : Nat → List Value → Option Value) (n : Nat) : ∀ c, codeOk (X.knowing k) n c = codeOk X n c := by
  have ho : ∀ x, opdOk (X.knowing k) x = opdOk X x := by intro x; cases x <;> rfl
  have hp : ∀ o, operOk (X.knowing k) n o = operOk X n o := by
    intro o
    unfold operOk
    have : opdOk (X.knowing k) = opdOk X := funext ho
    rw [this]
  intro c
  induction c with
  | region id ops d =>
    simp only [codeOk]
    have : operOk (X.knowing k) n = operOk X n := funext hp
    rw [this]
    rfl
  | seq a b h1 h2 => simp only [codeOk, h1, h2]
  | cond c a b h1 h2 => simp only [codeOk, h1, h2, ho]
  | block i c h => simp only [codeOk, h]
  | loop c h => simp only [codeOk, h]
  | scope c h => simp only [codeOk, h]
  | _ => rfl
theorem SoundF.knowing {X : Prg} {P : Program} (H : SoundF X P) {k : Nat → List Value → Option Value} (hk : Knows P X.laid k) : SoundF (X.knowing k) P where
  und := H.und
  info := H.info
  zero := H.zero
  held := H.held
  guard := H.guard
  fn := H.fn
  name := H.name
  code f fn c h hc := by rw [codeOk_knowing]; exact H.code f fn c h hc
  mixed := H.mixed
  knows := hk

/-! The store at the start: what is laid, and nothing else -/
def layT : List (Nat × List Value) → Tr AObj → Tr AObj
  | [], t => t
  | p :: r, t => layT r (t.set p.1 (.ro p.2))
def startS (G : Nat) (X : Prg) : St := ⟨G, layT X.laid .nil⟩
def startP (X : Prg) : Phi := fun b e => if e = 0 ∧ X.glob b = true then some ⟨b, 0, 0, 0⟩ else none
theorem layT_get {laid : List (Nat × List Value)} : ∀ (l : List (Nat × List Value)) (t : Tr AObj), (∀ p ∈ l, p ∈ laid) → (∀ b o, t.get b = some o → ∃ cs, o = .ro cs ∧ (b, cs) ∈ laid) → ∀ b o, (layT l t).get b = some o → ∃ cs, o = .ro cs ∧ (b, cs) ∈ laid
  | [], t, _, h => h
  | p :: l, t, hl, h => by
    refine layT_get l _ (fun q hq => hl q (List.mem_cons_of_mem _ hq)) fun b o hb => ?_
    rw [Tr.get_set] at hb
    split at hb
    · rename_i he; subst he; cases hb
      exact ⟨p.2, rfl, hl p List.mem_cons_self⟩
    · exact h b o hb
theorem start_get {G : Nat} {X : Prg} {b : Nat} {o : AObj} (h : (startS G X).get b = some o) : ∃ cs, o = .ro cs ∧ (b, cs) ∈ X.laid := by
  unfold St.get startS at h
  split at h
  · exact layT_get X.laid .nil (fun _ h => h) (fun b o h => by simp [Tr.get] at h) b o h
  · cases h
/-- What was laid and read, neither written: a store and its image, all of it to be read alone. -/
structure Ready (X : Prg) (φ : Phi) (s : St) (w : World) : Prop where
  rel : SRel X φ s.get w
  ro : ∀ b e l, φ b e = some l → isMut (s.get b) = false
  fresh : ∀ b e, s.size ≤ b → φ b e = none
  glob : GlobOk X φ
theorem Ready.start {X : Prg} {w : World} {G : Nat} (hG : ∀ p ∈ X.laid, p.1 < G) (hpl : ∀ p ∈ X.laid, ∀ v ∈ p.2, plainV v = true) (h : LaidIn X.laid w) : Ready X (startP X) (startS G X) w := by
  have hp : ∀ b e l, startP X b e = some l → e = 0 ∧ X.glob b = true ∧ l = ⟨b, 0, 0, 0⟩ := by
    intro b e l hb
    unfold startP at hb
    split at hb
    · rename_i hc; cases hb; exact ⟨hc.1, hc.2, rfl⟩
    · cases hb
  have hmem : ∀ b, X.glob b = true → ∃ cs, (b, cs) ∈ X.laid := by
    intro b hb
    obtain ⟨p, h1, h2⟩ := List.any_eq_true.1 hb
    have : p.1 = b := by simpa using h2
    subst this
    exact ⟨p.2, h1⟩
  have hro : ∀ b, isMut ((startS G X).get b) = false := by
    intro b
    cases hb : (startS G X).get b with
    | none => rfl
    | some o =>
      obtain ⟨cs, rfl, _⟩ := start_get hb
      rfl
  refine ⟨⟨fun b e l hb o ho => ?_, fun b e l hb => ?_, fun b e l b' e' l' hb hb' hne hm => ?_⟩, fun b e l hb => hro b, fun b e hb => ?_, fun g hg => ?_⟩
  · obtain ⟨rfl, _, rfl⟩ := hp b e l hb
    obtain ⟨cs, rfl, hc⟩ := start_get ho
    intro _ i v hv
    refine ⟨v, ?_, ?_⟩
    · rw [Nat.zero_add]; exact (h _ hc).2 i v hv
    · have := hpl _ hc v (List.mem_of_getElem? hv)
      cases v <;> first | exact .bool _ | exact .int _ _ | exact .string _ | (simp [plainV] at this; done)
  · obtain ⟨rfl, hg, rfl⟩ := hp b e l hb
    obtain ⟨cs, hc⟩ := hmem b hg
    exact (h _ hc).1
  · rw [hro b] at hm; cases hm
  · cases hx : startP X b e with
    | none => rfl
    | some l =>
      obtain ⟨_, hg, _⟩ := hp b e l hx
      obtain ⟨cs, hc⟩ := hmem b hg
      have := hG _ hc
      have : G ≤ b := hb
      simp only at *
      omega
  · exact ⟨⟨g, 0, 0, 0⟩, by simp [startP, hg], rfl, rfl⟩
theorem laidOk_keep {X : Prg} {s s' : St} (h : laidOk X s = true) (hk : ∀ b cs, s.get b = some (.ro cs) → s'.get b = some (.ro cs)) : laidOk X s' = true := by
  unfold laidOk at h ⊢
  rw [List.all_eq_true] at h ⊢
  intro p hp
  have := h p hp
  split at this
  · rename_i c hc
    rw [hk _ _ hc]; exact this
  · cases this

/-- What a closed call answers on what is laid is known of it everywhere. -/
theorem knows_of {X : Prg} {P : Program} (H : SoundF X P) {G : Nat} (hG : ∀ p ∈ X.laid, p.1 < G) (hpl : ∀ p ∈ X.laid, ∀ v ∈ p.2, plainV v = true) {n f : Nat} {v : Value} {s' : St} (h : acall X n f [] (startS G X) = some (v, s')) (hv : cstOk 4 v = true) :
    (∃ fn, P.funcs[f]? = some fn ∧ fn.body.isSome = true ∧ (fn.name == "runtime.NumGoroutine") = false) ∧ ∀ w, LaidIn X.laid w → Calls P f #[] w fun e w' => e = .returned v ∧ Grow w w' := by
  refine ⟨(enter_ok H (exec_all H n).1 f [] _ v s' h).2.1, fun w hw => ?_⟩
  have hrd := Ready.start hG hpl hw
  refine (acall_sound H h (args' := #[]) (w := w) .nil hrd.glob hrd.rel (fun b e h1 _ => hrd.fresh b e h1)).mono ?_
  rintro e w' ⟨φ', v', rfl, hr, hs, st⟩
  have : v' = v := by
    have : ∀ (m : Nat) (u u' : Value), cstOk m u = true → VRel φ' u u' → u' = u := by
      intro m
      induction m with
      | zero =>
        intro u u' hc hr
        cases hr <;> first | rfl | (simp [cstOk] at hc; done)
      | succ m ih =>
        have ihs : ∀ (l l' : List Value), l.all (cstOk m) = true → VRels φ' l l' → l' = l := by
          intro l
          induction l with
          | nil => intro l' _ hr; cases hr; rfl
          | cons u l ihl =>
            intro l' hc hr
            simp only [List.all_cons, Bool.and_eq_true] at hc
            cases hr with | cons _ u' _ l' h1 h2 =>
            rw [ih _ _ hc.1 h1, ihl _ hc.2 h2]
        intro u u' hc hr
        cases hr <;> first
          | rfl
          | (simp [cstOk] at hc; done)
          | (rename_i hrs; have := ihs _ _ (by simpa [cstOk] using hc) hrs; rw [Array.toList_inj.1 this])
          | (rename_i hrs; rw [ih _ _ (by simpa [cstOk] using hc) hrs])
    exact this 4 v v' hv hr
  subst this
  refine ⟨rfl, st.os, st.tape, st.output, st.wsize, fun c hc => st.frm c hc fun b e l hb _ => hrd.ro b e l hb⟩
/-- Closed calls that answer true. -/
def awk (G : Nat) (X : Prg) (f : Nat) : Bool := match acall X 100000 f [] (startS G X) with | some (.bool true, _) => true | _ => false
def knL (l : List Nat) (f : Nat) (args : List Value) : Option Value := if args.isEmpty && l.contains f then some (.bool true) else none
def laidWell (G : Nat) (X : Prg) : Bool := X.laid.all fun p => decide (p.1 < G) && p.2.all plainV
theorem laidWell_lt {G : Nat} {X : Prg} (h : laidWell G X = true) : ∀ p ∈ X.laid, p.1 < G := fun p hp => by
  have := List.all_eq_true.1 h p hp
  rw [Bool.and_eq_true] at this
  exact of_decide_eq_true this.1
theorem laidWell_plain {G : Nat} {X : Prg} (h : laidWell G X = true) : ∀ p ∈ X.laid, ∀ v ∈ p.2, plainV v = true := fun p hp => by
  have := List.all_eq_true.1 h p hp
  rw [Bool.and_eq_true] at this
  exact List.all_eq_true.1 this.2
theorem knows_knL {X : Prg} {P : Program} (H : SoundF X P) {G : Nat} (hw : laidWell G X = true) {l : List Nat} (h : ∀ f ∈ l, awk G X f = true) : Knows P X.laid (knL l) := by
  intro f args v hk hp
  unfold knL at hk
  split at hk
  · rename_i hc
    cases hk
    rw [Bool.and_eq_true, List.isEmpty_iff, List.contains_iff_mem] at hc
    obtain ⟨rfl, hf⟩ := hc
    have := h f hf
    unfold awk at this
    split at this
    · rename_i s' h1
      exact knows_of H (laidWell_lt hw) (laidWell_plain hw) h1 rfl
    · cases this
  · cases hk
end Go.Proofs.Ytndedkpcfjnecaa.Ab
