/- Rules by which a simplifier runs regions. -/
import Derived.Test.YticllcglldbffaaC3
import Derived.Laws.BitsLemmas
import Derived.Below
import Derived.WideShapes
import Derived.FnData
import Derived.OpenShut
import Derived.MakeChecks
import Derived.Carry
import Derived.WalkKit
import Derived.ProofKit
import Derived.ChangeOld
import Derived.SizedLaws
import Derived.Deep.Slices
import Derived.Deep.Fields
import Derived.ChangeSame
set_option linter.unusedSimpArgs false
set_option linter.unusedVariables false
set_option linter.unusedSectionVars false
section
namespace Go.Proofs.Yticllcglldbffaa.Ab
theorem evo_tmp (ρ : Env) (t : Nat) : evo ρ (.tmp t) = ρ.get t := rfl
theorem evo_const (ρ : Env) (v : Value) : evo ρ (.const v) = v := rfl
theorem wrap64 {x : Int} (h1 : -9223372036854775808 ≤ x) (h2 : x < 9223372036854775808) : IntKind.i64.wrap x = x := by
  rw [IntKind.wrap_i64]; omega
section
variable (X : Prg) (t : TypeId) (k : IntKind) (a b : Int)
theorem bin_add : binOpv X .add t (.int k a) (.int k b) = some (.int k (k.wrap (a + b))) := by simp [binOpv, intOp]
theorem bin_sub : binOpv X .sub t (.int k a) (.int k b) = some (.int k (k.wrap (a - b))) := by simp [binOpv, intOp]
theorem bin_mul : binOpv X .mul t (.int k a) (.int k b) = some (.int k (k.wrap (a * b))) := by simp [binOpv, intOp]
theorem bin_quo : binOpv X .quo t (.int k a) (.int k b) = if b = 0 then none else some (.int k (k.wrap (a.tdiv b))) := by simp [binOpv, intOp]
theorem bin_rem : binOpv X .rem t (.int k a) (.int k b) = if b = 0 then none else some (.int k (a.tmod b)) := by simp [binOpv, intOp]
theorem bin_lss : binOpv X .lss t (.int k a) (.int k b) = some (.bool (decide (a < b))) := by simp [binOpv, intOp, cmpI]
theorem bin_leq : binOpv X .leq t (.int k a) (.int k b) = some (.bool (decide (a ≤ b))) := by simp [binOpv, intOp, cmpI]
theorem bin_gtr : binOpv X .gtr t (.int k a) (.int k b) = some (.bool (decide (b < a))) := by simp [binOpv, intOp, cmpI]
theorem bin_geq : binOpv X .geq t (.int k a) (.int k b) = some (.bool (decide (b ≤ a))) := by simp [binOpv, intOp, cmpI]
theorem bin_eql : binOpv X .eql t (.int k a) (.int k b) = some (.bool (decide (a = b))) := by
  simp [binOpv, intOp, cmpI]
  by_cases h : a = b <;> simp [h]
theorem bin_neq : binOpv X .neq t (.int k a) (.int k b) = some (.bool (decide (a ≠ b))) := by
  simp [binOpv, intOp, cmpI]
  by_cases h : a = b <;> simp [h, bne]
theorem un_not (b : Bool) : unOpv .not (.bool b) = some (.bool (!b)) := rfl
theorem un_neg : unOpv .neg (.int k a) = some (.int k (k.wrap (0 - a))) := rfl
end
theorem if_and {p q : Prop} [Decidable (p ∧ q)] {α : Type} {a b : α} (h : p ∧ q) : ite (p ∧ q) a b = a := if_pos h
theorem toNat_cast (n : Nat) : ((n : Nat) : Int).toNat = n := Int.toNat_natCast n
theorem rd_len {s : St} {a : Addr} {n : Nat} {cs : List Value} (h : s.rd a n = some cs) : cs.length = n := by
  unfold St.rd at h
  split at h
  · split at h
    · cases h; simp; omega
    · cases h
  · split at h
    · cases h; simp; omega
    · cases h
  · cases h
theorem fwd_fwd (a : Addr) (m n : Nat) : Addr.fwd (Addr.fwd a m) n = Addr.fwd a (m + n) := by simp [Addr.fwd, Nat.add_assoc]
theorem flatMap_get {α : Type} (f : α → List Value) (k : Nat) (hk : ∀ x, (f x).length = k) : ∀ (l : List α) (i j : Nat) (x : α), l[i]? = some x → j < k → (l.flatMap f)[i * k + j]? = (f x)[j]?
  | [], i, j, x, h, _ => by simp at h
  | y :: l, 0, j, x, h, hj => by
    simp at h; subst h
    rw [List.flatMap_cons, Nat.zero_mul, Nat.zero_add, List.getElem?_append_left (by rw [hk]; exact hj)]
  | y :: l, i + 1, j, x, h, hj => by
    have := flatMap_get f k hk l i j x (by simpa using h) hj
    rw [List.flatMap_cons, List.getElem?_append_right (by rw [hk, Nat.succ_mul]; omega), hk]
    rw [← this]
    congr 1
    rw [Nat.succ_mul]; omega
end Go.Proofs.Yticllcglldbffaa.Ab
end
section
namespace Go.Proofs.Yticllcglldbffaa.Ab
section
variable {X : Prg} (R : St → St → Prop) (hr : ∀ s, R s s) (ht : ∀ s s1 s2, R s s1 → R s1 s2 → R s s2) (ha : ∀ ev op s v s', aop X ev op s = some (v, s') → R s s')
include hr ht ha
end
def RoKeep (s s' : St) : Prop := s.size ≤ s'.size ∧ ∀ b cs, s.get b = some (.ro cs) → s'.get b = some (.ro cs)
theorem RoKeep.refl (s : St) : RoKeep s s := ⟨Nat.le_refl _, fun _ _ h => h⟩
theorem RoKeep.trans {s s1 s2 : St} (h : RoKeep s s1) (k : RoKeep s1 s2) : RoKeep s s2 := ⟨Nat.le_trans h.1 k.1, fun b cs hb => k.2 b cs (h.2 b cs hb)⟩
theorem RoKeep.push (s : St) (o : AObj) : RoKeep s (s.push o) := ⟨by simp [St.size_push], fun b cs hb => by
  have := St.lt_of_get hb
  rw [St.get_push, if_neg (by omega)]; exact hb⟩
theorem RoKeep.set {s : St} {b : Nat} {o0 o : AObj} (h : s.get b = some o0) (h0 : isMut (some o0) = true) : RoKeep s (s.set b o) :=
  ⟨Nat.le_refl _, fun c cs hc => by
    rw [St.get_set h]
    split
    · rename_i he; subst he; rw [h] at hc; cases hc; cases h0
    · exact hc⟩
theorem wr_ro {s s' : St} {a : Addr} {vs : List Value} (h : s.wr a vs = some s') : RoKeep s s' := by
  unfold St.wr at h
  split at h
  · rename_i hb
    split at h
    · cases h; exact RoKeep.set hb rfl
    · cases h
  · cases h
theorem append_ro {te : Ty} {e n : Nat} {vs : List Value} {x v : Value} {s s' : St} (h : appendTo te e n vs x s = some (v, s')) : RoKeep s s' := by
  unfold appendTo at h
  repeat' split at h
  all_goals first
    | (cases h; done)
    | (cases h; exact RoKeep.refl _)
    | (cases h; exact RoKeep.push _ _)
    | (cases h; rename_i hw; exact wr_ro hw)
    | (cases h; exact RoKeep.set (by assumption) rfl)
def Ro (s : St) (a : Addr) (n : Nat) (cs : List Value) : Prop := (∃ all, s.get a.block = some (.ro all)) ∧ s.rd a n = some cs
theorem Ro.rd {s : St} {a : Addr} {n : Nat} {cs : List Value} (h : Ro s a n cs) : s.rd a n = some cs := h.2
theorem Ro.keep {s s' : St} {a : Addr} {n : Nat} {cs : List Value} (h : Ro s a n cs) (k : RoKeep s s') : Ro s' a n cs := by
  obtain ⟨⟨all, h1⟩, h2⟩ := h
  have h3 := k.2 _ _ h1
  refine ⟨⟨all, h3⟩, ?_⟩
  unfold St.rd at h2 ⊢
  rw [h1] at h2
  rw [h3]
  exact h2
inductive RoV (s : St) (k : Nat) : Value → Nat → List Value → Prop
  | nil : RoV s k (.slice none 0 0) 0 []
  | row (a : Addr) (n cap : Nat) (cs : List Value) : Ro s a (n * k) cs → n ≤ cap / 2 → RoV s k (.slice (some a) n cap) n cs
theorem RoV.keep {s s' : St} {k n : Nat} {v : Value} {cs : List Value} (h : RoV s k v n cs) (q : RoKeep s s') : RoV s' k v n cs := by
  cases h with
  | nil => exact .nil
  | row a n cap cs h hc => exact .row a n cap cs (h.keep q) hc
theorem RoV.len {s : St} {k n : Nat} {v : Value} {cs : List Value} (h : RoV s k v n cs) {X : Prg} {t : Nat} {e : Nat} {z : Value} {b c : Nat} (ht : X.ty t = some ⟨.slice e, b, c, z⟩) (s2 : St) : lenv X t v s2 = some (n : Int) := by
  cases h <;> simp [lenv, ht]
theorem RoV.pos {s : St} {k n : Nat} {v : Value} {cs : List Value} (h : RoV s k v n cs) (hn : 0 < n) : ∃ a cap, v = .slice (some a) n cap ∧ Ro s a (n * k) cs := by
  cases h with
  | nil => omega
  | row a n cap cs h hc => exact ⟨a, cap, rfl, h⟩
inductive Tip (s : St) (e k : Nat) : Value → List Value → Nat → Prop
  | nil : Tip s e k (.slice none 0 0) [] 0
  | row (b : Nat) (sp : Option Nat) (cs : List Value) (n : Nat) : s.get b = some (.own ⟨cs, e, sp.getD 0, 0, false⟩) → cs.length = n * k → Tip s e k (.slice (some ⟨b, 0, sp⟩) n (capO n)) cs n
def Rest (s s' : St) (v : Value) : Prop := s.size ≤ s'.size ∧ ∀ b o, s.get b = some o → (∀ a n c, v = .slice (some a) n c → a.block ≠ b) → s'.get b = some o
theorem Tip.push {s : St} {e k n : Nat} {v : Value} {cs : List Value} (h : Tip s e k v cs n) (o : AObj) : Tip (s.push o) e k v cs n := by
  cases h with
  | nil => exact .nil
  | row b sp cs n h1 h2 =>
    refine .row b sp cs n ?_ h2
    have := St.lt_of_get h1
    rw [St.get_push, if_neg (by omega)]; exact h1
theorem Tip.lenv {s : St} {e k n : Nat} {v : Value} {cs : List Value} (h : Tip s e k v cs n) {X : Prg} {t : Nat} {e1 : Nat} {z : Value} {b c : Nat} (ht : X.ty t = some ⟨.slice e1, b, c, z⟩) (s2 : St) : lenv X t v s2 = some (n : Int) := by
  cases h <;> simp [Ab.lenv, ht]
theorem Tip.pos {s : St} {e k n : Nat} {v : Value} {cs : List Value} (h : Tip s e k v cs n) (hn : 0 < n) : ∃ a cap, v = .slice (some a) n cap ∧ s.rd a (n * k) = some cs := by
  cases h with
  | nil => omega
  | row b sp cs n h1 h2 =>
    refine ⟨_, _, rfl, ?_⟩
    unfold St.rd
    simp only [h1, ep]
    rw [if_pos ⟨trivial, by omega⟩]
    rw [List.drop_zero, List.take_of_length_le (by omega)]
theorem Tip.len {s : St} {e k n : Nat} {v : Value} {cs : List Value} (h : Tip s e k v cs n) : cs.length = n * k := by
  cases h with
  | nil => simp
  | row b sp cs n h1 h2 => exact h2
theorem Tip.append {s : St} {e k n m : Nat} {v : Value} {cs vs : List Value} {te : Ty} (h : Tip s e k v cs n) (hk : te.size = k) (hl : vs.length = m * k) (hm : m ≠ 0) (hroom : roomOk (n + m) te.bytes = true) (h1 : vs.all Value.oneCell' = true) :
    ∃ v' s', appendTo te e m vs v s = some (v', s') ∧ Tip s' e k v' (cs ++ vs) (n + m) ∧ Rest s s' v ∧ RoKeep s s' := by
  have aux : ∀ v' s', appendTo te e m vs v s = some (v', s') → Tip s' e k v' (cs ++ vs) (n + m) ∧ Rest s s' v → ∃ v' s', appendTo te e m vs v s = some (v', s') ∧ Tip s' e k v' (cs ++ vs) (n + m) ∧ Rest s s' v ∧ RoKeep s s' :=
    fun v' s' q1 q2 => ⟨v', s', q1, q2.1, q2.2, append_ro q1⟩
  cases h with
  | nil =>
    refine aux (.slice (some ⟨s.size, 0, none⟩) m (capO m)) (s.push (.own ⟨vs, e, 0, 0, false⟩)) ?_ ⟨?_, ?_, ?_⟩
    · simp only [Nat.zero_add] at hroom
      simp [appendTo, hm, hroom]
    · rw [Nat.zero_add, List.nil_append]
      exact .row _ none _ _ (by rw [St.get_push, if_pos rfl]; rfl) hl
    · simp [St.size_push]
    · intro b o hb _
      have := St.lt_of_get hb
      rw [St.get_push, if_neg (by omega)]; exact hb
  | row b sp cs n h2 h3 =>
    refine aux (.slice (some ⟨b, 0, some (sp.getD 0 + 1)⟩) (n + m) (capO (n + m))) (s.set b (.own ⟨cs ++ vs, e, sp.getD 0 + 1, 0, false⟩)) ?_ ⟨?_, ?_, ?_⟩
    · have e1 : ¬ (n + m ≤ capO n / 2) := by simp only [capO]; omega
      have e2 : ¬ (capO n % 2 = 1) := by simp only [capO]; omega
      simp [appendTo, hm, e1, e2, h2, hroom, ep, h3, hk, h1]
    · refine .row b (some (sp.getD 0 + 1)) _ _ (by rw [St.get_set h2, if_pos rfl]; rfl) (by rw [List.length_append, h3, hl, Nat.add_mul])
    · exact Nat.le_refl _
    · intro c o hc hne
      have := hne _ _ _ rfl
      rw [St.get_set h2, if_neg this]; exact hc
theorem Tip.rd {s : St} {e k n : Nat} {a : Addr} {len cap : Nat} {cs : List Value} (h : Tip s e k (.slice (some a) len cap) cs n) : s.rd a (n * k) = some cs ∧ len = n := by
  cases h with
  | row b sp cs n h1 h2 =>
    refine ⟨?_, rfl⟩
    unfold St.rd
    simp only [h1, ep]
    rw [if_pos ⟨trivial, by omega⟩]
    rw [List.drop_zero, List.take_of_length_le (by omega)]
end Go.Proofs.Yticllcglldbffaa.Ab
end
section
namespace Go.Proofs.Yticllcglldbffaa.Ab
open Go.RowKit
def Phi.add (φ : Phi) (b : Nat) (l : Loc) : Phi := fun b' e => if b' = b ∧ e = 0 then some l else φ b' e
theorem Ready.push {X : Prg} {φ : Phi} {s : St} {w : World} (h : Ready X φ s w) (l : Loc) (hl : l.c < w.heap.size) (cs : List Value) (hcs : ∀ i v, cs[i]? = some v → ∃ v', w.cell? ⟨l.c, l.off + i, none⟩ = some v' ∧ VRel φ v v') :
    Ready X (Phi.add φ s.size l) (s.push (.ro cs)) w ∧ φ.le (Phi.add φ s.size l) := by
  have hle : φ.le (Phi.add φ s.size l) := by
    intro b e l' hb
    unfold Phi.add
    rw [if_neg]
    · exact hb
    · rintro ⟨rfl, rfl⟩
      rw [h.fresh _ _ (Nat.le_refl _)] at hb; cases hb
  have split : ∀ b e l', Phi.add φ s.size l b e = some l' → (b = s.size ∧ e = 0 ∧ l' = l) ∨ (φ b e = some l' ∧ b < s.size) := by
    intro b e l' hb
    unfold Phi.add at hb
    split at hb
    · rename_i hc; cases hb; exact .inl ⟨hc.1, hc.2, rfl⟩
    · refine .inr ⟨hb, ?_⟩
      rcases Nat.lt_or_ge b s.size with h1 | h1
      · exact h1
      · rw [h.fresh _ _ h1] at hb; cases hb
  have hget : ∀ b, b < s.size → (s.push (.ro cs)).get b = s.get b := fun b hb => by rw [St.get_push, if_neg (by omega)]
  have hnew : (s.push (.ro cs)).get s.size = some (.ro cs) := by rw [St.get_push, if_pos rfl]
  have hro : ∀ b e l', Phi.add φ s.size l b e = some l' → isMut ((s.push (.ro cs)).get b) = false := by
    intro b e l' hb
    rcases split b e l' hb with ⟨rfl, rfl, rfl⟩ | ⟨hb, hlt⟩
    · rw [hnew]; rfl
    · rw [hget b hlt]; exact h.ro b e l' hb
  refine ⟨⟨⟨?_, ?_, ?_⟩, hro, ?_, h.glob.mono hle⟩, hle⟩
  · intro b e l' hb o ho
    rcases split b e l' hb with ⟨rfl, rfl, rfl⟩ | ⟨hb, hlt⟩
    · rw [hnew] at ho; cases ho
      intro _ i v hv
      obtain ⟨v', h1, h2⟩ := hcs i v hv
      exact ⟨v', h1, h2.mono hle⟩
    · rw [hget b hlt] at ho
      exact (h.rel.obj b e l' hb o ho).world hle rfl
  · intro b e l' hb
    rcases split b e l' hb with ⟨rfl, rfl, rfl⟩ | ⟨hb, hlt⟩
    · exact hl
    · exact h.rel.lt b e l' hb
  · intro b e l1 b' e' l2 hb hb' hne hm
    rw [hro b e l1 hb] at hm; cases hm
  · intro b e hb
    unfold Phi.add
    simp only [St.size_push] at hb
    rw [if_neg (by rintro ⟨rfl, _⟩; omega)]
    exact h.fresh b e (by omega)
theorem Ready.slice {X : Prg} {φ : Phi} {s : St} {w : World} (h : Ready X φ s w) {x : Addr} {len cap k : Nat} (hsp : x.spot = none) (hx : x.block < w.heap.size) (hc : len ≤ cap) {cs : List Value} (hl : cs.length = len * k)
    (hcs : ∀ i v, cs[i]? = some v → ∃ v', w.cell? (x.add i) = some v' ∧ VRel φ v v') :
    ∃ φ' v, Ready X φ' (s.push (.ro cs)) w ∧ φ.le φ' ∧ VRel φ' v (.slice (some x) len cap) ∧ RoV (s.push (.ro cs)) k v len cs := by
  have hadd : ∀ i, x.add i = ⟨x.block, x.off + i, none⟩ := by
    intro i
    unfold Addr.add
    split
    · rename_i h0; subst h0; cases x; simp_all
    · rfl
  obtain ⟨h1, h2⟩ := h.push ⟨x.block, x.off, cap * k, k⟩ hx cs (by simpa only [hadd] using hcs)
  refine ⟨_, .slice (some ⟨s.size, 0, none⟩) len (capO len), h1, h2, ?_, ?_⟩
  · have hp : Phi.add φ s.size ⟨x.block, x.off, cap * k, k⟩ s.size 0 = some ⟨x.block, x.off, cap * k, k⟩ := by simp [Phi.add]
    have := VRel.slice (φ := Phi.add φ s.size ⟨x.block, x.off, cap * k, k⟩) ⟨s.size, 0, none⟩ ⟨x.block, x.off, cap * k, k⟩ len (capO len) ⟨x.block, x.off, none⟩ cap hp (.inl (by simp)) hc (by simp only [capO]; omega) (by simp only [capO]; omega) (fun _ _ => Nat.le_refl _)
    have hxe : x = ⟨x.block, x.off, none⟩ := by cases x; simp_all
    rw [← hxe] at this
    exact this
  · refine .row _ _ _ _ ⟨⟨cs, by rw [St.get_push, if_pos rfl]⟩, ?_⟩ (by simp only [capO]; omega)
    unfold St.rd
    rw [St.get_push, if_pos rfl]
    refine (if_pos ⟨rfl, by simp only [Nat.zero_add]; exact Nat.le_of_eq hl.symm⟩).trans ?_
    rw [List.drop_zero, List.take_of_length_le (Nat.le_of_eq hl)]
theorem below_of_step {φ φ' : Phi} {s s' : St} {w w' : World} (hro : ∀ b e l, φ b e = some l → isMut (s.get b) = false) (st : Step φ φ' s s' w w') : Below w.heap.size w w' :=
  ⟨st.os, st.tape, st.output, st.wsize, fun k hk => st.frm k hk fun b e l hb _ => hro b e l hb⟩
theorem law_calls {X : Prg} {P : Program} (H : SoundF X P) {f : Nat} {args : List Value} {args' : Array Value} {φ : Phi} {s : St} {w : World} (hr : Ready X φ s w) (ha : VRels φ args args'.toList) (hc : WC X f args s fun r _ => r = .bool true) (hb : X.bodied f = true := by rfl) :
    Calls P f args' w fun e w' => e = .returned (.bool true) ∧ Below w.heap.size w w' := by
  obtain ⟨n, v, s', h1, rfl⟩ := hc
  refine (acall_sound H hb h1 ha hr.glob hr.rel (fun b e h2 _ => hr.fresh b e h2)).mono ?_
  rintro e w' ⟨φ', v', rfl, h2, _, h3⟩
  cases h2
  exact ⟨rfl, below_of_step hr.ro h3⟩
end Go.Proofs.Yticllcglldbffaa.Ab
end
section
namespace Go.Proofs.Yticllcglldbffaa.Ab
section
variable (X : Prg)
def opV (op : Op) (ρ : Env) (s : St) (k : Value → St → Prop) : Prop := match isCall op with
  | some (f, args) => match funOf (evo ρ f) with
    | some (n, a, b) => WC X n (a.toList ++ args.toList.map (evo ρ) ++ b.toList) s k
    | none => False
  | none => match aop X (evo ρ) op s with
    | some (v, s') => k v s'
    | none => False
def wpS : List SO → Env → St → (Env → St → Prop) → Prop
  | [], ρ, s, K => K ρ s
  | o :: r, ρ, s, K => match wantS o.g ρ with
    | true => opV X o.op ρ s fun v s' => wpS r (ρ.put o.dst v) s' K
    | false => wpS r (ρ.put o.dst undef) s K
structure SD where
  so : SO
  kind : Nat
  chk : List Nat
def lookN {α : Type} : List (Nat × α) → Nat → Option α
  | [], _ => none
  | p :: l, i => if p.1 = i then some p.2 else lookN l i
def holdsAll (pend : List (Nat × (St → Prop))) (s : St) : List Nat → Prop
  | [] => True
  | i :: l => (match lookN pend i with | some p => p s | none => True) ∧ holdsAll pend s l
def sameRead (op : Op) (ρ : Env) (v : Value) (s : St) : Prop := ∃ s2, aop X (evo ρ) op s = some (v, s2)
def readAll (hist : List (Nat × St)) (op : Op) (ρ : Env) (v : Value) : List Nat → Prop
  | [] => True
  | j :: l => (match lookN hist j with | some s => sameRead X op ρ v s | none => False) ∧ readAll hist op ρ v l
def aeqSelf (v : Value) : Prop := aeq 1000 v v = true
def wpD : List SD → Nat → List (Nat × St) → List (Nat × (St → Prop)) → Env → St → (Env → St → Prop) → Prop
  | [], _, _, _, ρ, s, K => K ρ s
  | o :: r, i, hist, pend, ρ, s, K =>
    match wantS o.so.g ρ with
    | true => opV X o.so.op ρ s fun v s' =>
        if o.kind = 1 then holdsAll pend s' o.chk ∧ wpD r (i + 1) ((i, s) :: hist) pend (ρ.put o.so.dst v) s' K
        else if o.kind = 2 then aeqSelf v ∧ readAll X hist o.so.op ρ v o.chk ∧ wpD r (i + 1) hist ((i, sameRead X o.so.op ρ v) :: pend) (ρ.put o.so.dst v) s' K
        else wpD r (i + 1) hist pend (ρ.put o.so.dst v) s' K
    | false => if o.kind = 1 then holdsAll pend s o.chk ∧ wpD r (i + 1) ((i, s) :: hist) pend (ρ.put o.so.dst undef) s K else wpD r (i + 1) hist pend (ρ.put o.so.dst undef) s K
def unord (bs : List Nat) (i j : Nat) : Bool := !((bs.getD i 0).testBit j) && !((bs.getD j 0).testBit i)
def kindOf (o : Oper) : Nat := if isEff o.op then 1 else if isNew X o.op then 0 else 2
def metaOf (ops : List Oper) : List (Nat × List Nat) := (iota ops.length).map fun i => match ops[i]? with
  | some o => (kindOf X o, (iota i).filter fun j => match ops[j]? with
    | some p => unord (befs ops) i j && ((kindOf X o == 1 && kindOf X p == 2) || (kindOf X o == 2 && kindOf X p == 1))
    | none => false)
  | none => (0, [])
def zipD : List SO → List (Nat × List Nat) → List SD
  | o :: l, m :: ms => ⟨o, m.1, m.2⟩ :: zipD l ms
  | _, _ => []
def wp : Code → Env → St → (Xit → Env → St → Prop) → Prop
  | .skip, ρ, s, Q => Q .normal ρ s
  | .label _, ρ, s, Q => Q .normal ρ s
  | .region _ ops draw, ρ, s, Q => if regOk X ops.toList draw = true then wpS X (ops.toList.map (strip1 ops)) ρ s (Q .normal)
    else statOk X ops.toList = true ∧ wpD X (zipD (ops.toList.map (strip1 ops)) (metaOf X ops.toList)) 0 [] [] ρ s (Q .normal)
  | .seq a b, ρ, s, Q => wp a ρ s fun e ρ s => match e with | .normal => wp b ρ s Q | e => Q e ρ s
  | .cond c a b, ρ, s, Q => match boolOf (evo ρ c) with | some true => wp a ρ s Q | some false => wp b ρ s Q | none => False
  | .block id c, ρ, s, Q => wp c ρ s (blockQ id Q)
  | .exit i, ρ, s, Q => Q (.exit i) ρ s
  | .goto l, ρ, s, Q => Q (.goto l) ρ s
  | .ret, ρ, s, Q => Q .ret ρ s
  | c, ρ, s, Q => W X c ρ s Q
end
section
variable {X : Prg} {ρ : Env} {s : St}
theorem WS_of_wpS {K : Env → St → Prop} : ∀ (l : List SO) (ρ : Env) (s : St), wpS X l ρ s K → WS X l ρ s K
  | [], ρ, s, h => ⟨0, ρ, s, rfl, h⟩
  | o :: r, ρ, s, h => by
    simp only [wpS] at h
    cases hw : wantS o.g ρ with
    | false =>
      rw [hw] at h
      obtain ⟨n, ρ', s', h1, h2⟩ := WS_of_wpS r _ _ h
      refine ⟨n, ρ', s', ?_, h2⟩
      rw [runS, hw]; exact h1
    | true =>
      rw [hw] at h
      simp only [opV] at h
      cases hc : isCall o.op with
      | some fa =>
        obtain ⟨f, args⟩ := fa
        rw [hc] at h
        simp only at h
        cases hf : funOf (evo ρ f) with
        | none => rw [hf] at h; exact h.elim
        | some kab =>
          obtain ⟨k, a, b⟩ := kab
          rw [hf] at h
          obtain ⟨n, v, s1, h1, h2⟩ := h
          obtain ⟨m, ρ2, s2, h2, h3⟩ := WS_of_wpS r _ _ h2
          refine ⟨max n m, ρ2, s2, ?_, h3⟩
          have e : stepS (enter (exec X (max n m)) X) X o.op ρ s = some (v, s1) := by
            rw [stepS_call hc, hf]
            exact call_le X (Nat.le_max_left n m) _ _ _ _ h1
          rw [runS, hw, if_pos rfl, e]
          exact runS_mono (call_le X (Nat.le_max_right n m)) _ _ _ _ h2
      | none =>
        rw [hc] at h
        simp only at h
        cases ha : aop X (evo ρ) o.op s with
        | none => rw [ha] at h; exact h.elim
        | some p =>
          obtain ⟨v, s1⟩ := p
          rw [ha] at h
          obtain ⟨n, ρ', s', h1, h2⟩ := WS_of_wpS r _ _ h
          refine ⟨n, ρ', s', ?_, h2⟩
          rw [runS, hw, if_pos rfl, stepS_aop hc, ha]
          exact h1
def ChkD (X : Prg) (call : Caller) : List SD → Nat → List (Nat × St) → List (Nat × (St → Prop)) → Env → St → Prop
  | [], _, _, _, ρ, s => True
  | o :: r, i, hist, pend, ρ, s =>
    if wantS o.so.g ρ = true then match stepS call X o.so.op ρ s with
      | some (v, s') =>
        if o.kind = 1 then holdsAll pend s' o.chk ∧ ChkD X call r (i + 1) ((i, s) :: hist) pend (ρ.put o.so.dst v) s'
        else if o.kind = 2 then aeqSelf v ∧ readAll X hist o.so.op ρ v o.chk ∧ ChkD X call r (i + 1) hist ((i, sameRead X o.so.op ρ v) :: pend) (ρ.put o.so.dst v) s'
        else ChkD X call r (i + 1) hist pend (ρ.put o.so.dst v) s'
      | none => False
    else if o.kind = 1 then holdsAll pend s o.chk ∧ ChkD X call r (i + 1) ((i, s) :: hist) pend (ρ.put o.so.dst undef) s else ChkD X call r (i + 1) hist pend (ρ.put o.so.dst undef) s
theorem ChkD_mono {c d : Caller} (h : Cle c d) : ∀ (l : List SD) (i : Nat) (hist : List (Nat × St)) (pend : List (Nat × (St → Prop))) (ρ : Env) (s : St), ChkD X c l i hist pend ρ s → ChkD X d l i hist pend ρ s
  | [], _, _, _, _, _, _ => trivial
  | o :: r, i, hist, pend, ρ, s, hc => by
    simp only [ChkD] at hc ⊢
    split at hc
    · rename_i hw
      rw [if_pos hw]
      split at hc
      · rename_i v s' h1
        rw [stepS_mono h h1]
        simp only
        split at hc
        · rename_i hk; rw [if_pos hk]; exact ⟨hc.1, ChkD_mono h r _ _ _ _ _ hc.2⟩
        · rename_i hk
          rw [if_neg hk]
          split at hc
          · rename_i hk2; rw [if_pos hk2]; exact ⟨hc.1, hc.2.1, ChkD_mono h r _ _ _ _ _ hc.2.2⟩
          · rename_i hk2; rw [if_neg hk2]; exact ChkD_mono h r _ _ _ _ _ hc
      · exact hc.elim
    · rename_i hw
      rw [if_neg hw]
      split at hc
      · rename_i hk; rw [if_pos hk]; exact ⟨hc.1, ChkD_mono h r _ _ _ _ _ hc.2⟩
      · rename_i hk; rw [if_neg hk]; exact ChkD_mono h r _ _ _ _ _ hc
theorem run_of_wpD {K : Env → St → Prop} : ∀ (l : List SD) (i : Nat) (hist : List (Nat × St)) (pend : List (Nat × (St → Prop))) (ρ : Env) (s : St), (∀ o ∈ l, ∀ fa, isCall o.so.op = some fa → o.kind = 1) → wpD X l i hist pend ρ s K →
    ∃ n ρ' s', runS (enter (exec X n) X) X (l.map (·.so)) ρ s = some (ρ', s') ∧ K ρ' s' ∧ ChkD X (enter (exec X n) X) l i hist pend ρ s
  | [], i, hist, pend, ρ, s, hk, h => ⟨0, ρ, s, rfl, h, trivial⟩
  | o :: r, i, hist, pend, ρ, s, hk, h => by
    have hkr : ∀ o ∈ r, ∀ fa, isCall o.so.op = some fa → o.kind = 1 := fun p hp => hk p (List.mem_cons_of_mem _ hp)
    simp only [wpD] at h
    cases hw : wantS o.so.g ρ with
    | false =>
      rw [hw] at h
      simp only at h
      split at h
      · rename_i hk1
        obtain ⟨n, ρ', s', h1, h2, h3⟩ := run_of_wpD r _ _ _ _ _ hkr h.2
        refine ⟨n, ρ', s', ?_, h2, ?_⟩
        · simp only [List.map_cons, runS, hw]; exact h1
        · simp only [ChkD, hw, hk1, Bool.false_eq_true, if_false, if_true]; exact ⟨h.1, h3⟩
      · rename_i hk1
        obtain ⟨n, ρ', s', h1, h2, h3⟩ := run_of_wpD r _ _ _ _ _ hkr h
        refine ⟨n, ρ', s', ?_, h2, ?_⟩
        · simp only [List.map_cons, runS, hw]; exact h1
        · simp only [ChkD, hw, hk1, Bool.false_eq_true, if_false]; exact h3
    | true =>
      rw [hw] at h
      simp only [opV] at h
      cases hc : isCall o.so.op with
      | some fa =>
        obtain ⟨f, args⟩ := fa
        have hk1 := hk o List.mem_cons_self _ hc
        rw [hc] at h
        simp only at h
        cases hf : funOf (evo ρ f) with
        | none => rw [hf] at h; exact h.elim
        | some kab =>
          obtain ⟨k, a, b⟩ := kab
          rw [hf] at h
          simp only [hk1, if_true] at h
          obtain ⟨n, v, s1, h1, h4, h2⟩ := h
          obtain ⟨m, ρ2, s2, h2, h3, h5⟩ := run_of_wpD r _ _ _ _ _ hkr h2
          have e : stepS (enter (exec X (max n m)) X) X o.so.op ρ s = some (v, s1) := by
            rw [stepS_call hc, hf]
            exact call_le X (Nat.le_max_left n m) _ _ _ _ h1
          refine ⟨max n m, ρ2, s2, ?_, h3, ?_⟩
          · rw [List.map_cons, runS, hw, if_pos rfl, e]
            exact runS_mono (call_le X (Nat.le_max_right n m)) _ _ _ _ h2
          · simp only [ChkD, hw, e, hk1, if_true]
            exact ⟨h4, ChkD_mono (call_le X (Nat.le_max_right n m)) _ _ _ _ _ _ h5⟩
      | none =>
        rw [hc] at h
        simp only at h
        cases ha : aop X (evo ρ) o.so.op s with
        | none => rw [ha] at h; exact h.elim
        | some p =>
          obtain ⟨v, s1⟩ := p
          rw [ha] at h
          simp only at h
          have e : ∀ call, stepS call X o.so.op ρ s = some (v, s1) := fun call => by rw [stepS_aop hc, ha]
          split at h
          · rename_i hk1
            obtain ⟨n, ρ', s', h1, h2, h3⟩ := run_of_wpD r _ _ _ _ _ hkr h.2
            refine ⟨n, ρ', s', ?_, h2, ?_⟩
            · rw [List.map_cons, runS, hw, if_pos rfl, e]; exact h1
            · simp only [ChkD, hw, e, hk1, if_true]; exact ⟨h.1, h3⟩
          · rename_i hk1
            split at h
            · rename_i hk2
              obtain ⟨n, ρ', s', h1, h2, h3⟩ := run_of_wpD r _ _ _ _ _ hkr h.2.2
              refine ⟨n, ρ', s', ?_, h2, ?_⟩
              · rw [List.map_cons, runS, hw, if_pos rfl, e]; exact h1
              · simp only [ChkD, hw, e, hk1, hk2, if_true, if_false]; exact ⟨h.1, h.2.1, h3⟩
            · rename_i hk2
              obtain ⟨n, ρ', s', h1, h2, h3⟩ := run_of_wpD r _ _ _ _ _ hkr h
              refine ⟨n, ρ', s', ?_, h2, ?_⟩
              · rw [List.map_cons, runS, hw, if_pos rfl, e]; exact h1
              · simp only [ChkD, hw, e, hk1, hk2, if_true, if_false]; exact h3
theorem holdsAll_mem {pend : List (Nat × (St → Prop))} {s : St} : ∀ {l : List Nat}, holdsAll pend s l → ∀ i ∈ l, ∀ p, lookN pend i = some p → p s
  | [], _, i, hi, _, _ => by cases hi
  | j :: l, h, i, hi, p, hp => by
    rcases List.mem_cons.1 hi with rfl | hi
    · have := h.1; rw [hp] at this; exact this
    · exact holdsAll_mem h.2 i hi p hp
theorem readAll_mem {hist : List (Nat × St)} {op : Op} {ρ : Env} {v : Value} : ∀ {l : List Nat}, readAll X hist op ρ v l → ∀ j ∈ l, ∃ s, lookN hist j = some s ∧ sameRead X op ρ v s
  | [], _, i, hi => by cases hi
  | j :: l, h, i, hi => by
    rcases List.mem_cons.1 hi with rfl | hi
    · have := h.1
      split at this
      · rename_i s hs; exact ⟨s, hs, this⟩
      · exact this.elim
    · exact readAll_mem h.2 i hi
theorem zipD_get : ∀ (l : List SO) (m : List (Nat × List Nat)) (i : Nat) (o : SO) (p : Nat × List Nat), l[i]? = some o → m[i]? = some p → (zipD l m)[i]? = some ⟨o, p.1, p.2⟩
  | [], _, i, _, _, h, _ => by simp at h
  | _ :: _, [], i, _, _, _, h => by simp at h
  | o :: l, m :: ms, 0, _, _, h1, h2 => by simp at h1 h2; subst h1; subst h2; rfl
  | o :: l, m :: ms, i + 1, _, _, h1, h2 => by simpa [zipD] using zipD_get l ms i _ _ (by simpa using h1) (by simpa using h2)
theorem zipD_map : ∀ (l : List SO) (m : List (Nat × List Nat)), l.length = m.length → (zipD l m).map (·.so) = l
  | [], [], _ => rfl
  | [], _ :: _, h => by simp at h
  | _ :: _, [], h => by simp at h
  | o :: l, m :: ms, h => by simp [zipD, zipD_map l ms (by simpa using h)]
theorem iota_len : ∀ n, (iota n).length = n
  | 0 => rfl
  | n + 1 => by simp [iota, iota_len n]
theorem iota_get : ∀ (n i : Nat), i < n → (iota n)[i]? = some i
  | 0, i, h => by omega
  | n + 1, i, h => by
    rw [iota]
    by_cases hi : i < n
    · rw [List.getElem?_append_left (by rw [iota_len]; exact hi)]; exact iota_get n i hi
    · have : i = n := by omega
      subst this
      rw [List.getElem?_append_right (by rw [iota_len]; exact Nat.le_refl _), iota_len]; simp
theorem readsOk_chk {call : Caller} {ops : List Oper} {ρ T : Env} {s s' : St} (hst : statOk X ops = true) (hrun : runOps call X ops.toArray ops ρ s = some (T, s')) (hc : ChkD X call (zipD (ops.map (strip1 ops.toArray)) (metaOf X ops)) 0 [] [] ρ s) :
    readsOk X ops T (trace call X ops.toArray ops ρ s) = true := by
  obtain ⟨R, S, HT⟩ := trace_spec ops ρ s T s' hrun
  have HS := stat_of hst
  have hmeta : ∀ i o, ops[i]? = some o → (metaOf X ops)[i]? = some (kindOf X o, (iota i).filter fun j => match ops[j]? with
    | some p => unord (befs ops) i j && ((kindOf X o == 1 && kindOf X p == 2) || (kindOf X o == 2 && kindOf X p == 1))
    | none => false) := by
    intro i o ho
    have hl := (List.getElem?_eq_some_iff.1 ho).1
    unfold metaOf
    rw [List.getElem?_map, iota_get _ _ hl]
    simp only [Option.map_some, ho]
  have hz : ∀ i o, ops[i]? = some o → (zipD (ops.map (strip1 ops.toArray)) (metaOf X ops))[i]? = some (SD.mk (strip1 ops.toArray o) (kindOf X o) ((iota i).filter fun j => match ops[j]? with
    | some p => unord (befs ops) i j && ((kindOf X o == 1 && kindOf X p == 2) || (kindOf X o == 2 && kindOf X p == 1))
    | none => false)) := by
    intro i o ho
    exact zipD_get _ _ i _ _ (by rw [List.getElem?_map, ho]; rfl) (hmeta i o ho)
  generalize hL : zipD (ops.map (strip1 ops.toArray)) (metaOf X ops) = L at hc hz
  -- along the run
  have main : ∀ m, m ≤ ops.length → ∃ hist pend, ChkD X call (L.drop m) m hist pend (R m) (S m) ∧ (∀ j p, j < m → ops[j]? = some p → kindOf X p = 1 → lookN hist j = some (S j)) ∧
      (∀ i o, i < m → ops[i]? = some o → kindOf X o = 2 → wantedE ops.toArray o (R i) = true → ∃ v, lookN pend i = some (sameRead X o.op (R i) v) ∧ aeqSelf v ∧ (∀ d, o.dst = some d → T.get d = v) ∧
        (∀ j p, j < i → ops[j]? = some p → kindOf X p = 1 → unord (befs ops) i j = true → sameRead X o.op (R i) v (S j)) ∧
        (∀ j p, i < j → j < m → ops[j]? = some p → kindOf X p = 1 → unord (befs ops) j i = true → sameRead X o.op (R i) v (S (j + 1)))) ∧
      (∀ q ∈ pend, q.1 < m) ∧ (∀ q ∈ hist, q.1 < m) := by
    intro m
    induction m with
    | zero => intro _; exact ⟨[], [], by rw [List.drop_zero, HT.r0, HT.s0]; exact hc, fun j p h => by omega, fun i o h => by omega, fun q hq => by simp at hq, fun q hq => by simp at hq⟩
    | succ m ih =>
      intro hm
      obtain ⟨hist, pend, h1, h2, h3, h4, h4h⟩ := ih (by omega)
      have hlt : m < ops.length := by omega
      have ho := List.getElem?_eq_getElem hlt
      generalize ops[m] = o at ho
      have hLm := hz m o ho
      have hLl : m < L.length := (List.getElem?_eq_some_iff.1 hLm).1
      have hLe : L[m] = _ := (List.getElem?_eq_some_iff.1 hLm).2
      rw [List.drop_eq_getElem_cons hLl, hLe] at h1
      simp only [ChkD] at h1
      have hop : (strip1 ops.toArray o).op = o.op := rfl
      have hds : (strip1 ops.toArray o).dst = o.dst := rfl
      rw [hop, hds] at h1
      have pfresh : ∀ x : St → Prop, ∀ i, i < m → lookN ((m, x) :: pend) i = lookN pend i := fun x i hi => by simp only [lookN]; rw [if_neg (by omega)]
      have hfresh : ∀ x : St, ∀ i, i < m → lookN ((m, x) :: hist) i = lookN hist i := fun x i hi => by simp only [lookN]; rw [if_neg (by omega)]
      -- an effect: the reads ahead of it
      have eff : ∀ s1, kindOf X o = 1 → holdsAll pend s1 ((iota m).filter fun j => match ops[j]? with
          | some p => unord (befs ops) m j && ((kindOf X o == 1 && kindOf X p == 2) || (kindOf X o == 2 && kindOf X p == 1))
          | none => false) → S (m + 1) = s1 → ∀ i p, i < m → ops[i]? = some p → kindOf X p = 2 → wantedE ops.toArray p (R i) = true → unord (befs ops) m i = true → ∀ v, lookN pend i = some (sameRead X p.op (R i) v) → sameRead X p.op (R i) v (S (m + 1)) := by
        intro s1 hk hh hs1 i p hi hp hkp hw hu v hv
        have hmem : i ∈ (iota m).filter fun j => match ops[j]? with
          | some p => unord (befs ops) m j && ((kindOf X o == 1 && kindOf X p == 2) || (kindOf X o == 2 && kindOf X p == 1))
          | none => false := by
          rw [List.mem_filter]
          exact ⟨mem_iota.2 hi, by rw [hp]; simp [hu, hk, hkp]⟩
        have := holdsAll_mem hh i hmem _ hv
        rw [hs1]; exact this
      have old : ∀ (hist' : List (Nat × St)) (pend' : List (Nat × (St → Prop))), ChkD X call (L.drop (m + 1)) (m + 1) hist' pend' (R (m + 1)) (S (m + 1)) →
          (∀ i, i < m → lookN pend' i = lookN pend i) → (∀ i, i < m → lookN hist' i = lookN hist i) → (kindOf X o = 1 → lookN hist' m = some (S m)) →
          (kindOf X o = 2 → wantedE ops.toArray o (R m) = true → ∃ v, lookN pend' m = some (sameRead X o.op (R m) v) ∧ aeqSelf v ∧ (∀ d, o.dst = some d → T.get d = v) ∧ (∀ j p, j < m → ops[j]? = some p → kindOf X p = 1 → unord (befs ops) m j = true → sameRead X o.op (R m) v (S j))) →
          (kindOf X o = 1 → ∀ i p, i < m → ops[i]? = some p → kindOf X p = 2 → wantedE ops.toArray p (R i) = true → unord (befs ops) m i = true → ∀ v, lookN pend i = some (sameRead X p.op (R i) v) → sameRead X p.op (R i) v (S (m + 1))) →
          (∀ q ∈ pend', q.1 < m + 1) → (∀ q ∈ hist', q.1 < m + 1) →
          ∃ hist pend, ChkD X call (L.drop (m + 1)) (m + 1) hist pend (R (m + 1)) (S (m + 1)) ∧ (∀ j p, j < m + 1 → ops[j]? = some p → kindOf X p = 1 → lookN hist j = some (S j)) ∧
      (∀ i o, i < m + 1 → ops[i]? = some o → kindOf X o = 2 → wantedE ops.toArray o (R i) = true → ∃ v, lookN pend i = some (sameRead X o.op (R i) v) ∧ aeqSelf v ∧ (∀ d, o.dst = some d → T.get d = v) ∧
        (∀ j p, j < i → ops[j]? = some p → kindOf X p = 1 → unord (befs ops) i j = true → sameRead X o.op (R i) v (S j)) ∧
        (∀ j p, i < j → j < m + 1 → ops[j]? = some p → kindOf X p = 1 → unord (befs ops) j i = true → sameRead X o.op (R i) v (S (j + 1)))) ∧
      (∀ q ∈ pend, q.1 < m + 1) ∧ (∀ q ∈ hist, q.1 < m + 1) := by
        intro hist' pend' g1 g2 g2h g3 g4 g5 g6 g6h
        refine ⟨hist', pend', g1, fun j p hj hp hk => ?_, fun i p hi hp hk hw => ?_, g6, g6h⟩
        · by_cases hjm : j = m
          · subst hjm; rw [ho] at hp; cases hp; exact g3 hk
          · rw [g2h j (by omega)]; exact h2 j p (by omega) hp hk
        · by_cases him : i = m
          · subst him; rw [ho] at hp; cases hp
            obtain ⟨v, q1, q2, q3, q4⟩ := g4 hk hw
            exact ⟨v, q1, q2, q3, q4, fun j p hj1 hj2 => by omega⟩
          · obtain ⟨v, q1, q2, q3, q4, q5⟩ := h3 i p (by omega) hp hk hw
            refine ⟨v, by rw [g2 i (by omega)]; exact q1, q2, q3, q4, fun j p2 hj1 hj2 hp2 hk2 hu => ?_⟩
            by_cases hjm : j = m
            · subst hjm; rw [ho] at hp2; cases hp2
              exact g5 hk2 i p (by omega) hp hk hw hu v q1
            · exact q5 j p2 hj1 (by omega) hp2 hk2 hu
      rcases HT.step m o ho with ⟨hw, v, hv, hR⟩ | ⟨hw, hS, hR⟩
      · have hw2 : wantS (strip1 ops.toArray o).g (R m) = true := by rw [← wantS_strip]; exact hw
        rw [if_pos hw2] at h1
        have hv2 : stepS call X o.op (R m) (S m) = some (v, S (m + 1)) := hv
        rw [hv2] at h1
        simp only at h1
        have hTd : ∀ d, o.dst = some d → T.get d = v := fun d hd => by
          rw [← HT.rn, R_keep HT d (show m + 1 ≤ ops.length by omega) (Nat.le_refl _) fun k p h1 h2 h3 => HS.dst k m p o d h3 ho (by omega) hd, hR, hd]
          simp [Env.put, Env.get_set]
        split at h1
        · rename_i hk
          refine old ((m, S m) :: hist) pend (by rw [hR]; exact h1.2) (fun i hi => rfl) (fun i hi => hfresh _ i hi) (fun _ => by simp [lookN]) (fun hk2 => by rw [hk] at hk2; cases hk2) (fun _ => eff _ hk h1.1 rfl) (fun q hq => by have := h4 q hq; omega) (fun q hq => by
            rcases List.mem_cons.1 hq with rfl | hq
            · exact Nat.lt_succ_self m
            · have := h4h q hq; omega)
        · rename_i hk
          split at h1
          · rename_i hk2
            refine old hist ((m, sameRead X o.op (R m) v) :: pend) (by rw [hR]; exact h1.2.2) (fun i hi => pfresh _ i hi) (fun i hi => rfl) (fun hk3 => absurd hk3 hk) (fun _ _ => ⟨v, by simp [lookN], h1.1, hTd, fun j p hj hp hkp hu => ?_⟩) (fun hk3 => absurd hk3 hk) (fun q hq => by
              rcases List.mem_cons.1 hq with rfl | hq
              · exact Nat.lt_succ_self m
              · have := h4 q hq; omega) (fun q hq => by have := h4h q hq; omega)
            have hmem : j ∈ (iota m).filter fun j => match ops[j]? with
              | some p => unord (befs ops) m j && ((kindOf X o == 1 && kindOf X p == 2) || (kindOf X o == 2 && kindOf X p == 1))
              | none => false := by
              rw [List.mem_filter]
              exact ⟨mem_iota.2 hj, by rw [hp]; simp [hu, hk2, hkp]⟩
            obtain ⟨s0, q1, q2⟩ := readAll_mem h1.2.1 j hmem
            rw [h2 j p hj hp hkp] at q1
            cases q1
            exact q2
          · rename_i hk2
            exact old hist pend (by rw [hR]; exact h1) (fun i hi => rfl) (fun i hi => rfl) (fun hk3 => absurd hk3 hk) (fun hk3 => absurd hk3 hk2) (fun hk3 => absurd hk3 hk) (fun q hq => by have := h4 q hq; omega) (fun q hq => by have := h4h q hq; omega)
      · have hw2 : ¬ wantS (strip1 ops.toArray o).g (R m) = true := by rw [← wantS_strip, hw]; simp
        rw [if_neg hw2] at h1
        split at h1
        · rename_i hk
          refine old ((m, S m) :: hist) pend (by rw [hR, hS]; exact h1.2) (fun i hi => rfl) (fun i hi => hfresh _ i hi) (fun _ => by simp [lookN]) (fun hk2 => by rw [hk] at hk2; cases hk2) (fun _ => eff _ hk h1.1 hS) (fun q hq => by have := h4 q hq; omega) (fun q hq => by
            rcases List.mem_cons.1 hq with rfl | hq
            · exact Nat.lt_succ_self m
            · have := h4h q hq; omega)
        · rename_i hk
          exact old hist pend (by rw [hR, hS]; exact h1) (fun i hi => rfl) (fun i hi => rfl) (fun hk3 => absurd hk3 hk) (fun _ hw3 => by rw [hw] at hw3; cases hw3) (fun hk3 => absurd hk3 hk) (fun q hq => by have := h4 q hq; omega) (fun q hq => by have := h4h q hq; omega)
  obtain ⟨_, _, _, _, h3, _⟩ := main ops.length (Nat.le_refl _)
  unfold readsOk
  rw [Bool.or_eq_true]
  right
  rw [List.all_eq_true]
  intro i hi
  have hil := mem_iota.1 hi
  have ho := List.getElem?_eq_getElem hil
  generalize ops[i] = o at ho
  rw [ho, HT.tr i (by omega)]
  simp only [Bool.or_eq_true]
  by_cases he : isEff o.op = true
  · exact .inl (.inl he)
  · by_cases hn : isNew X o.op = true
    · exact .inl (.inr hn)
    · right
      rw [List.all_eq_true]
      intro j hj
      unfold effsOf at hj
      rw [List.mem_filter] at hj
      have hjl := mem_iota.1 hj.1
      have hp := List.getElem?_eq_getElem hjl
      generalize ops[j] = p at hp
      have hep : isEff p.op = true := by have := hj.2; rw [hp] at this; exact this
      have hk : kindOf X o = 2 := by simp [kindOf, he, hn]
      have hkp : kindOf X p = 1 := by simp [kindOf, hep]
      simp only [Bool.or_eq_true, Bool.not_eq_true']
      by_cases hu : unord (befs ops) i j = true
      · by_cases hw : wantedE ops.toArray o (R i) = true
        · right
          obtain ⟨v, _, q2, q3, q4, q5⟩ := h3 i o hil ho hk hw
          have fin : ∀ m, m ≤ ops.length → sameRead X o.op (R i) v (S m) → sameAt X T o (R i) ((trace call X ops.toArray ops ρ s)[m]?) = true := by
            intro m hm hr
            rw [HT.tr m hm]
            obtain ⟨s2, hr⟩ := hr
            unfold sameAt
            simp only [hr]
            cases hd : o.dst with
            | none => rfl
            | some d =>
              simp only
              rw [q3 d hd]; exact q2
          rcases Nat.lt_trichotomy j i with hlt | heq | hgt
          · rw [if_pos hlt]; exact fin j (by omega) (q4 j p hlt hp hkp hu)
          · subst heq; rw [ho] at hp; cases hp; rw [hk] at hkp; cases hkp
          · rw [if_neg (by omega)]
            have hu2 : unord (befs ops) j i = true := by unfold unord at hu ⊢; rw [Bool.and_comm]; exact hu
            exact fin (j + 1) (by omega) (q5 j p hgt hjl hp hkp hu2)
        · left; right; simpa using hw
      · left; left
        unfold unord at hu
        simp only [Bool.and_eq_true, Bool.not_eq_true', not_and, Bool.not_eq_false] at hu
        by_cases hb : ((befs ops).getD i 0).testBit j = true
        · exact .inl hb
        · exact .inr (hu (by simpa using hb))
theorem W_regionD {id : Nat} {ops : Array Oper} {draw : Bool} {Q : Xit → Env → St → Prop} (hst : statOk X ops.toList = true) (h : wpD X (zipD (ops.toList.map (strip1 ops)) (metaOf X ops.toList)) 0 [] [] ρ s (Q .normal)) : W X (.region id ops draw) ρ s Q := by
  have hkind : ∀ o ∈ zipD (ops.toList.map (strip1 ops)) (metaOf X ops.toList), ∀ fa, isCall o.so.op = some fa → o.kind = 1 := by
    intro o ho fa hfa
    obtain ⟨i, hi⟩ := List.getElem?_of_mem ho
    have hlen : (ops.toList.map (strip1 ops)).length = (metaOf X ops.toList).length := by simp [metaOf, iota_len]
    have hil : i < ops.toList.length := by
      have h1 := (List.getElem?_eq_some_iff.1 hi).1
      have h2 := congrArg List.length (zipD_map _ _ hlen)
      simp only [List.length_map] at h2
      omega
    have hoi := List.getElem?_eq_getElem hil
    generalize ops.toList[i] = p at hoi
    have hm : (metaOf X ops.toList)[i]? = some (kindOf X p, (iota i).filter fun j => match ops.toList[j]? with
      | some q => unord (befs ops.toList) i j && ((kindOf X p == 1 && kindOf X q == 2) || (kindOf X p == 2 && kindOf X q == 1))
      | none => false) := by
      unfold metaOf
      rw [List.getElem?_map, iota_get _ _ hil]
      simp only [Option.map_some, hoi]
    have := zipD_get _ _ i _ _ (show (ops.toList.map (strip1 ops))[i]? = some (strip1 ops p) by rw [List.getElem?_map, hoi]; rfl) hm
    rw [hi] at this
    cases this
    have hc : isCall p.op = some fa := hfa
    have : isEff p.op = true := by
      unfold isCall at hc
      split at hc
      · rename_i hop; rw [hop]; rfl
      · cases hc
    simp [kindOf, this]
  obtain ⟨n, T, s', h1, h2, h3⟩ := run_of_wpD _ _ _ _ _ _ hkind h
  have hlen : (ops.toList.map (strip1 ops)).length = (metaOf X ops.toList).length := by simp [metaOf, iota_len]
  rw [zipD_map _ _ hlen] at h1
  have hrun : runOps (enter (exec X n) X) X ops.toList.toArray ops.toList ρ s = some (T, s') := by rw [runS_strip]; simpa using h1
  refine ⟨n + 1, .normal, T, s', ?_, h2⟩
  rw [exec, Option.map_eq_some_iff]
  refine ⟨(T, s'), ?_, rfl⟩
  unfold region
  rw [hrun]
  simp only
  cases draw with
  | false => rfl
  | true =>
    rw [if_pos rfl, if_pos]
    exact readsOk_chk hst hrun (by simpa using h3)
theorem W_of_wp : ∀ (c : Code) (ρ : Env) (s : St) (Q : Xit → Env → St → Prop), wp X c ρ s Q → W X c ρ s Q
  | .skip, ρ, s, Q, h => W_skip h
  | .label _, ρ, s, Q, h => W_label h
  | .region id ops draw, ρ, s, Q, h => by
    simp only [wp] at h
    split at h
    · rename_i hok
      exact W_region hok fun K hK => by subst hK; exact WS_of_wpS _ _ _ h
    · exact W_regionD h.1 h.2
  | .seq a b, ρ, s, Q, h => W_seq (W_mono (W_of_wp a ρ s _ h) fun e ρ' s' h' => by
      cases e with
      | normal => exact W_of_wp b ρ' s' Q h'
      | _ => exact h')
  | .cond c a b, ρ, s, Q, h => by
    simp only [wp] at h
    generalize hv : evo ρ c = v at h
    cases v with
    | bool t => cases t with
      | true => exact W_cond_true hv (W_of_wp a ρ s Q h)
      | false => exact W_cond_false hv (W_of_wp b ρ s Q h)
    | _ => exact h.elim
  | .block id c, ρ, s, Q, h => W_block (W_of_wp c ρ s _ h)
  | .exit i, ρ, s, Q, h => W_exit h
  | .goto l, ρ, s, Q, h => W_goto h
  | .ret, ρ, s, Q, h => W_ret h
  | .loop _, _, _, _, h | .scope _, _, _, _, h | .rangeFunc _ _ _ _, _, _, _, h | .refuse _, _, _, _, h => h
def rtP (X : Prg) (rs : List ResultVar) (Q : Value → St → Prop) : Xit → Env → St → Prop := retQ X rs Q
def resK (o : Option (List Value)) (s : St) (Q : Value → St → Prop) : Prop := match o with | some vs => Q (tupv vs) s | none => False
theorem resK_some {vs : List Value} {Q : Value → St → Prop} : resK (some vs) s Q = Q (tupv vs) s := rfl
theorem rtP_ret {rs : List ResultVar} {Q : Value → St → Prop} : rtP X rs Q .ret ρ s = resK (resvs X ρ s rs) s Q := by
  show bindO _ _ = _
  unfold resK
  cases resvs X ρ s rs with
  | none => exact bindO_none _
  | some vs => exact bindO_some _ _
theorem rtP_normal {rs : List ResultVar} {Q : Value → St → Prop} : rtP X rs Q .normal ρ s = resK (resvs X ρ s rs) s Q := rtP_ret
theorem resvs_tmp {t : Nat} {rs : List ResultVar} : resvs X ρ s (.tmp t :: rs) = (resvs X ρ s rs).map (ρ.get t :: ·) := by
  simp only [resvs, resv]
  cases resvs X ρ s rs <;> rfl
def consO (a : Option Value) (b : Option (List Value)) : Option (List Value) := match a, b with | some v, some l => some (v :: l) | _, _ => none
theorem resvs_cell {a t : Nat} {rs : List ResultVar} : resvs X ρ s (.cell a t :: rs) = consO (loadv X t (ρ.get a) s) (resvs X ρ s rs) := by
  simp only [resvs, resv, consO]
  cases loadv X t (ρ.get a) s <;> cases resvs X ρ s rs <;> rfl
def condP (X : Prg) (t : Option Bool) (a b : Code) (ρ : Env) (s : St) (Q : Xit → Env → St → Prop) : Prop := match t with | some true => wp X a ρ s Q | some false => wp X b ρ s Q | none => False
theorem condP_dec {p : Prop} [Decidable p] {a b : Code} {Q : Xit → Env → St → Prop} (h1 : p → wp X a ρ s Q) (h2 : ¬ p → wp X b ρ s Q) : condP X (some (decide p)) a b ρ s Q := by
  by_cases h : p
  · rw [decide_eq_true h]; exact h1 h
  · rw [decide_eq_false h]; exact h2 h
theorem condP_ndec {p : Prop} [Decidable p] {a b : Code} {Q : Xit → Env → St → Prop} (h1 : ¬ p → wp X a ρ s Q) (h2 : p → wp X b ρ s Q) : condP X (some (!decide p)) a b ρ s Q := by
  by_cases h : p
  · rw [decide_eq_true h]; exact h2 h
  · rw [decide_eq_false h]; exact h1 h
theorem condP_split {t : Bool} {a b : Code} {Q : Xit → Env → St → Prop} (h1 : t = true → wp X a ρ s Q) (h2 : t = false → wp X b ρ s Q) : condP X (some t) a b ρ s Q := by
  cases t with
  | true => exact h1 rfl
  | false => exact h2 rfl
variable {d : Option Nat} {op : Op} {r : List SO} {K : Env → St → Prop} {k : Value → St → Prop}
def KS (X : Prg) (d : Option Nat) (r : List SO) (ρ : Env) (K : Env → St → Prop) (v : Value) (s : St) : Prop := wpS X r (ρ.put d v) s K
def guardW (X : Prg) (b : Bool) (d : Option Nat) (op : Op) (r : List SO) (ρ : Env) (s : St) (K : Env → St → Prop) : Prop := match b with
  | true => opV X op ρ s (KS X d r ρ K)
  | false => wpS X r (ρ.put d undef) s K
theorem guardW_dec {p : Prop} [Decidable p] (h1 : p → opV X op ρ s (KS X d r ρ K)) (h2 : ¬ p → wpS X r (ρ.put d undef) s K) : guardW X (decide p) d op r ρ s K := by
  by_cases h : p
  · rw [decide_eq_true h]; exact h1 h
  · rw [decide_eq_false h]; exact h2 h
theorem guardW_ndec {p : Prop} [Decidable p] (h1 : ¬ p → opV X op ρ s (KS X d r ρ K)) (h2 : p → wpS X r (ρ.put d undef) s K) : guardW X (!decide p) d op r ρ s K := by
  by_cases h : p
  · rw [decide_eq_true h]; exact h2 h
  · rw [decide_eq_false h]; exact h1 h
theorem guardW_split {b : Bool} (h1 : b = true → opV X op ρ s (KS X d r ρ K)) (h2 : b = false → wpS X r (ρ.put d undef) s K) : guardW X b d op r ρ s K := by
  cases b with
  | true => exact h1 rfl
  | false => exact h2 rfl
def KD (X : Prg) (kind : Nat) (chk : List Nat) (op : Op) (d : Option Nat) (r : List SD) (i : Nat) (hist : List (Nat × St)) (pend : List (Nat × (St → Prop))) (ρ : Env) (s : St) (K : Env → St → Prop) (v : Value) (s' : St) : Prop :=
  if kind = 1 then holdsAll pend s' chk ∧ wpD X r (i + 1) ((i, s) :: hist) pend (ρ.put d v) s' K
  else if kind = 2 then aeqSelf v ∧ readAll X hist op ρ v chk ∧ wpD X r (i + 1) hist ((i, sameRead X op ρ v) :: pend) (ρ.put d v) s' K
  else wpD X r (i + 1) hist pend (ρ.put d v) s' K
section
variable {chk : List Nat} {q : List SD} {i kind : Nat} {hist : List (Nat × St)} {pend : List (Nat × (St → Prop))} {s' : St} {v : Value}
def guardD (X : Prg) (b : Bool) (kind : Nat) (chk : List Nat) (op : Op) (d : Option Nat) (q : List SD) (i : Nat) (hist : List (Nat × St)) (pend : List (Nat × (St → Prop))) (ρ : Env) (s : St) (K : Env → St → Prop) : Prop := match b with
  | true => opV X op ρ s (KD X kind chk op d q i hist pend ρ s K)
  | false => if kind = 1 then holdsAll pend s chk ∧ wpD X q (i + 1) ((i, s) :: hist) pend (ρ.put d undef) s K else wpD X q (i + 1) hist pend (ρ.put d undef) s K
theorem guardD_split {b : Bool} (h1 : b = true → opV X op ρ s (KD X kind chk op d q i hist pend ρ s K)) (h2 : b = false → guardD X false kind chk op d q i hist pend ρ s K) : guardD X b kind chk op d q i hist pend ρ s K := by
  cases b with
  | true => exact h1 rfl
  | false => exact h2 rfl
theorem guardD_ndec {p : Prop} [Decidable p] (h1 : ¬ p → opV X op ρ s (KD X kind chk op d q i hist pend ρ s K)) (h2 : p → guardD X false kind chk op d q i hist pend ρ s K) : guardD X (!decide p) kind chk op d q i hist pend ρ s K := by
  by_cases h : p
  · rw [decide_eq_true h]; exact h2 h
  · rw [decide_eq_false h]; exact h1 h
theorem guardD_dec {p : Prop} [Decidable p] (h1 : p → opV X op ρ s (KD X kind chk op d q i hist pend ρ s K)) (h2 : ¬ p → guardD X false kind chk op d q i hist pend ρ s K) : guardD X (decide p) kind chk op d q i hist pend ρ s K := by
  by_cases h : p
  · rw [decide_eq_true h]; exact h1 h
  · rw [decide_eq_false h]; exact h2 h
theorem zipD_cons {o : SO} {l : List SO} {m : Nat × List Nat} {ms : List (Nat × List Nat)} : zipD (o :: l) (m :: ms) = ⟨o, m.1, m.2⟩ :: zipD l ms := rfl
theorem zipD_nil {ms : List (Nat × List Nat)} : zipD [] ms = [] := by cases ms <;> rfl
theorem lookN_cons {α : Type} {i j : Nat} {a : α} {l : List (Nat × α)} : lookN ((i, a) :: l) j = if i = j then some a else lookN l j := rfl
theorem lookN_nil {α : Type} {j : Nat} : lookN ([] : List (Nat × α)) j = none := rfl
end
def iterP (I : Nat → Env → St → Prop) (m : Nat) (Q : Xit → Env → St → Prop) (e : Xit) (ρ : Env) (s : St) : Prop := match e with
  | .normal => ∃ m', m' < m ∧ I m' ρ s
  | e => Q e ρ s
theorem W_iter {c : Code} {Q : Xit → Env → St → Prop} (I : Nat → Env → St → Prop) (m : Nat) (h0 : I m ρ s) (h : ∀ m ρ s, I m ρ s → wp X c ρ s (iterP I m Q)) : W X (.loop c) ρ s Q := by
  induction m using Nat.strongRecOn generalizing ρ s with
  | _ m ih =>
    refine W_loop (W_mono (W_of_wp _ _ _ _ (h m ρ s h0)) fun e ρ' s' h' => ?_)
    cases e with
    | normal =>
      obtain ⟨m', h1, h2⟩ := h'
      exact ih m' h1 h2
    | _ => exact h'
theorem WC_in {f : Nat} {args : List Value} {Q : Value → St → Prop} {fn : Func} {c : Code} {rs : List ResultVar} (hk : X.known f args = none) (hf : X.fn f = some fn) (hc : fn.body = some c) (hr : fn.results.toList = rs) {n : Nat} (hn : fn.ntmps = n) (hl : Nat.ble args.length n = true) (h : wp X c (Env.of args) s (rtP X rs Q)) : WC X f args s Q := by
  subst hr
  exact WC_enter hk hf hc (by rw [hn]; exact Nat.le_of_ble_eq_true hl) (W_of_wp _ _ _ _ h)
end
attribute [irreducible] wp wpS wpD opV guardW guardD condP KS KD rtP resK iterP
end Go.Proofs.Yticllcglldbffaa.Ab
end
section
namespace Go.Proofs.Yticllcglldbffaa.Ab
theorem one_ne_zero' : ¬ ((1 : Int) = 0) := by decide
theorem zero_ne_one' : ¬ ((0 : Int) = 1) := by decide
theorem Addr.fwd_zero (a : Addr) : Addr.fwd a 0 = a := rfl
theorem toNat_add_lit (n m : Nat) : ((n : Int) + (no_index (OfNat.ofNat m))).toNat = n + m := by
  show ((n : Int) + ((m : Nat) : Int)).toNat = n + m
  omega
theorem cast_zero' : ((0 : Nat) : Int) = 0 := rfl
theorem cast_lit (n : Nat) : ((no_index (OfNat.ofNat n) : Nat) : Int) = OfNat.ofNat n := rfl
theorem if_le {a b : Nat} (h : a ≤ b) {α : Type} {x y : α} : ite (a ≤ b) x y = x := if_pos h
theorem if_lt {a b : Nat} (h : a < b) {α : Type} {x y : α} : ite (a < b) x y = x := if_pos h
def Ext (s s' : St) : Prop := s.size ≤ s'.size ∧ ∀ b o, s.get b = some o → s'.get b = some o
theorem Ext.refl (s : St) : Ext s s := ⟨Nat.le_refl _, fun _ _ h => h⟩
theorem Ext.trans {s s1 s2 : St} (h : Ext s s1) (k : Ext s1 s2) : Ext s s2 := ⟨Nat.le_trans h.1 k.1, fun b o hb => k.2 b o (h.2 b o hb)⟩
theorem Ext.push (s : St) (o : AObj) : Ext s (s.push o) := ⟨by simp [St.size_push], fun b o' hb => by have := St.lt_of_get hb; rw [St.get_push, if_neg (by omega)]; exact hb⟩
theorem Ext.push' {s s1 : St} (h : Ext s s1) {o : AObj} : Ext s (s1.push o) := h.trans (Ext.push _ _)
theorem Ext.get {s s' : St} (h : Ext s s') {b : Nat} {o : AObj} (hb : s.get b = some o) : s'.get b = some o := h.2 b o hb
theorem rd_congr {s s' : St} {a : Addr} {n : Nat} {cs : List Value} (h : s.rd a n = some cs) (hg : s'.get a.block = s.get a.block) : s'.rd a n = some cs := by
  unfold St.rd at h ⊢
  rw [hg]; exact h
theorem rd_has {s : St} {a : Addr} {n : Nat} {cs : List Value} (h : s.rd a n = some cs) : ∃ o, s.get a.block = some o := by
  cases hb : s.get a.block with
  | none => unfold St.rd at h; rw [hb] at h; cases h
  | some o => exact ⟨o, rfl⟩
theorem Ext.rd {s s' : St} (h : Ext s s') {a : Addr} {n : Nat} {cs : List Value} (hr : s.rd a n = some cs) : s'.rd a n = some cs := by
  obtain ⟨o, ho⟩ := rd_has hr
  exact rd_congr hr (by rw [ho, h.get ho])
theorem Ext.keep {s s' : St} (h : Ext s s') : RoKeep s s' := ⟨h.1, fun b cs hb => h.get hb⟩
theorem Ext.set {s s' : St} (h : Ext s s') {b : Nat} {o0 o : AObj} (hb : s.size ≤ b) (h0 : s'.get b = some o0) : Ext s (s'.set b o) :=
  ⟨h.1, fun c oc hc => by have := St.lt_of_get hc; rw [St.get_set h0, if_neg (by omega)]; exact h.2 c oc hc⟩
def LaidS (X : Prg) (s : St) : Prop := ∀ p ∈ X.laid, s.get p.1 = some (.ro p.2)
theorem LaidS.keep {X : Prg} {s s' : St} (h : LaidS X s) (k : RoKeep s s') : LaidS X s' := fun p hp => k.2 _ _ (h p hp)
theorem LaidS.ext {X : Prg} {s s' : St} (h : LaidS X s) (k : Ext s s') : LaidS X s' := h.keep k.keep
theorem plainEqs_refl : ∀ (l : List Value), l.all plainV = true → plainEqs l l = true
  | [], _ => rfl
  | v :: l, h => by
    rw [List.all_cons, Bool.and_eq_true] at h
    simp only [plainEqs, plainEqs_refl l h.2, Bool.and_true]
    have := h.1
    cases v <;> simp_all [plainV, plainEq]
theorem LaidS.ok {X : Prg} {s : St} {G : Nat} (hw : laidWell G X = true) (h : LaidS X s) : laidOk X s = true := by
  unfold laidOk
  rw [List.all_eq_true]
  intro p hp
  rw [h p hp]
  have := List.all_eq_true.1 hw p hp
  rw [Bool.and_eq_true] at this
  exact plainEqs_refl _ this.2
theorem LaidS.rd {X : Prg} {s : St} (h : LaidS X s) {g : Nat} {cs : List Value} (hp : (g, cs) ∈ X.laid) {i : Nat} {v : Value} (hi : cs[i]? = some v) : s.rd (Addr.fwd ⟨g, 0, none⟩ i) 1 = some [v] := by
  have h1 := h _ hp
  have hl : i < cs.length := by
    rcases Nat.lt_or_ge i cs.length with h2 | h2
    · exact h2
    · rw [List.getElem?_eq_none h2] at hi; cases hi
  unfold St.rd Addr.fwd
  simp only at h1 ⊢
  rw [h1]
  simp only [Nat.zero_add]
  rw [if_pos ⟨rfl, by omega⟩, List.drop_eq_getElem_cons hl]
  rw [List.getElem?_eq_getElem hl] at hi
  cases hi
  rfl
theorem layT_own : ∀ (l : List (Nat × List Value)) (t : Tr AObj) (g : Nat) (cs : List Value), (g, cs) ∈ l → (∀ p ∈ l, p.1 = g → p.2 = cs) → (layT l t).get g = some (.ro cs)
  | [], _, _, _, h, _ => by cases h
  | p :: l, t, g, cs, h, hu => by
    simp only [layT]
    by_cases hin : ∃ q ∈ l, q.1 = g
    · obtain ⟨q, h1, h2⟩ := hin
      have : q = (g, cs) := by
        have := hu q (List.mem_cons_of_mem _ h1) h2
        cases q; simp_all
      subst this
      exact layT_own l _ g cs h1 fun p hp => hu p (List.mem_cons_of_mem _ hp)
    · have hp : p = (g, cs) := by
        rcases List.mem_cons.1 h with h1 | h1
        · exact h1.symm
        · exact absurd ⟨_, h1, rfl⟩ hin
      have go : ∀ (l : List (Nat × List Value)) (t : Tr AObj), (∀ q ∈ l, q.1 ≠ g) → (layT l t).get g = t.get g := by
        intro l
        induction l with
        | nil => intro t _; rfl
        | cons q l ih =>
          intro t hq
          simp only [layT]
          rw [ih _ fun r hr => hq r (List.mem_cons_of_mem _ hr), Tr.get_set, if_neg (hq q List.mem_cons_self)]
      rw [go l _ fun q hq h2 => hin ⟨q, hq, h2⟩, hp, Tr.get_set, if_pos rfl]
def laidOnce : List (Nat × List Value) → Bool
  | [] => true
  | p :: l => l.all (fun q => q.1 != p.1) && laidOnce l
theorem laidOnce_ok : ∀ (l : List (Nat × List Value)), laidOnce l = true → ∀ p ∈ l, ∀ q ∈ l, q.1 = p.1 → q.2 = p.2
  | [], _, p, hp, _, _, _ => by cases hp
  | r :: l, h, p, hp, q, hq, he => by
    simp only [laidOnce, Bool.and_eq_true] at h
    have h1 := List.all_eq_true.1 h.1
    rcases List.mem_cons.1 hp with e1 | hp2
    · rcases List.mem_cons.1 hq with e2 | hq2
      · rw [e1, e2]
      · have := h1 q hq2; simp at this; rw [e1] at he; exact absurd he this
    · rcases List.mem_cons.1 hq with e2 | hq2
      · have := h1 p hp2; simp at this; rw [e2] at he; exact absurd he.symm this
      · exact laidOnce_ok l h.2 p hp2 q hq2 he
theorem LaidS.start {X : Prg} {G : Nat} (hw : laidWell G X = true) (ho : laidOnce X.laid = true) : LaidS X (startS G X) := by
  intro p hp
  have := laidWell_lt hw p hp
  unfold St.get startS
  rw [if_pos this]
  exact layT_own _ _ _ _ hp fun q hq he => laidOnce_ok _ ho p hp q hq he
theorem known_of_WC {X : Prg} {P : Program} (H : SoundF X P) {G : Nat} (hw : laidWell G X = true) {f : Nat} (hb : X.bodied f = true) {args : List Value} {v : Value} (ha : args.all plainV = true) (hv : cstOk 4 v = true) (h : WC X f args (startS G X) fun r _ => r = v) :
    (∃ fn, P.funcs[f]? = some fn ∧ fn.body.isSome = true ∧ (fn.name == "runtime.NumGoroutine") = false) ∧ ∀ w, LaidIn X.laid w → Calls P f args.toArray w fun e w' => e = .returned v ∧ Grow w w' := by
  obtain ⟨n, v', s', h, rfl⟩ := h
  refine ⟨(enter_body H (exec_all H n).1 hb h).1, fun w hl => ?_⟩
  have hrd := Ready.start (laidWell_lt hw) (laidWell_plain hw) hl
  have hself : VRels (startP X) args args.toArray.toList := by
    refine VRels.self _ fun u hu => ?_
    have := List.all_eq_true.1 ha u (by simpa using hu)
    cases u <;> first | exact .bool _ | exact .int _ _ | exact .string _ | (simp [plainV] at this; done)
  refine (acall_sound H hb h hself hrd.glob hrd.rel (fun b e h1 _ => hrd.fresh b e h1)).mono ?_
  rintro e w' ⟨φ', v2, rfl, hr, hs, st⟩
  have : v2 = v' := by
    have : ∀ (m : Nat) (u u' : Value), cstOk m u = true → VRel φ' u u' → u' = u := by
      intro m
      induction m with
      | zero =>
        intro u u' hc hr
        cases hr <;> first | rfl | (simp [cstOk] at hc; done)
      | succ m ih =>
        have ihs : ∀ (l l' : List Value), l.all (cstOk m) = true → VRels φ' l l' → l' = l := by
          intro l
          induction l with
          | nil => intro l' _ hr; cases hr; rfl
          | cons u l ihl =>
            intro l' hc hr
            simp only [List.all_cons, Bool.and_eq_true] at hc
            cases hr with | cons _ u' _ l' h1 h2 =>
            rw [ih _ _ hc.1 h1, ihl _ hc.2 h2]
        intro u u' hc hr
        cases hr <;> first
          | rfl
          | (simp [cstOk] at hc; done)
          | (rename_i hrs; have := ihs _ _ (by simpa [cstOk] using hc) hrs; rw [Array.toList_inj.1 this])
          | (rename_i hrs; rw [ih _ _ (by simpa [cstOk] using hc) hrs])
    exact this 4 v' v2 hv hr
  subst this
  exact ⟨rfl, st.os, st.tape, st.output, st.wsize, fun c hc => st.frm c hc fun b e l hb _ => hrd.ro b e l hb⟩
theorem knows_more {X0 : Prg} {P : Program} {k : Nat → List Value → Option Value} (H : SoundF (X0.knowing k) P) {G : Nat} (hw : laidWell G X0 = true) {l : List Nat} (h : ∀ f ∈ l, awk G (X0.knowing k) f = true) : Knows P X0.laid (knL l) :=
  knows_knL H (X := X0.knowing k) hw h
def tri : List Value → List (Int × Int × Int)
  | .int _ a :: .int _ b :: .int _ c :: l => (a, b, c) :: tri l
  | _ => []
def enc3 (k : IntKind) (p : Int × Int × Int) : List Value := [.int k p.1, .int k p.2.1, .int k p.2.2]
def two : List Value → List (Int × Int)
  | .int _ a :: .int _ b :: l => (a, b) :: two l
  | _ => []
def enc2 (k : IntKind) (p : Int × Int) : List Value := [.int k p.1, .int k p.2]
end Go.Proofs.Yticllcglldbffaa.Ab
end
section
namespace Go.Proofs.Yticllcglldbffaa.Ab
theorem cells_int (k : IntKind) (n : Int) : (Value.int k n).cells = #[.int k n] := rfl
theorem cells_bool (b : Bool) : (Value.bool b).cells = #[.bool b] := rfl
theorem cells_string (b : ByteArray) : (Value.string b).cells = #[.string b] := rfl
theorem cells_ptr (a : Option Addr) : (Value.pointer a).cells = #[.pointer a] := rfl
theorem cells_slice (a : Option Addr) (l c : Nat) : (Value.slice a l c).cells = #[.slice a l c] := rfl
theorem cells_map (a : Option Nat) : (Value.map a).cells = #[.map a] := rfl
theorem cells_nilFunc : (Value.nilFunc).cells = #[.nilFunc] := rfl
theorem cells_nilIface : (Value.nilIface).cells = #[.nilIface] := rfl
theorem cells_agg (a : Array Value) : (Value.agg a).cells = a := rfl
theorem one_int (k : IntKind) (n : Int) : (Value.int k n).oneCell' = true := rfl
theorem one_bool (b : Bool) : (Value.bool b).oneCell' = true := rfl
theorem one_string (b : ByteArray) : (Value.string b).oneCell' = true := rfl
theorem one_ptr (a : Option Addr) : (Value.pointer a).oneCell' = true := rfl
theorem one_slice (a : Option Addr) (l c : Nat) : (Value.slice a l c).oneCell' = true := rfl
theorem one_map (a : Option Nat) : (Value.map a).oneCell' = true := rfl
theorem one_nilFunc : (Value.nilFunc).oneCell' = true := rfl
theorem fwd_mk (b off k : Nat) (sp : Option Nat) : Addr.fwd ⟨b, off, sp⟩ k = ⟨b, off + k, sp⟩ := rfl
theorem fwd_block (a : Addr) (k : Nat) : (Addr.fwd a k).block = a.block := rfl
theorem size_push' (s : St) (o : AObj) : (s.push o).size = s.size + 1 := by have := St.size_push s o; omega
theorem size_set' (s : St) (b : Nat) (o : AObj) : (s.set b o).size = s.size := by have := St.size_set s b o; omega
section
variable {s : St} {b c off n : Nat} {sp : Option Nat} {o : AObj} {r : Row} {a : Addr} {k : Nat} {vs : List Value}
end
def fillL (place : Nat → Option (Nat × Nat)) (cs : List Value) : List (Nat × Value) → Option (List Value)
  | [] => some cs
  | (i, v) :: rest =>
    match place i with
    | none => none
    | some (off, size) => if v.cells.toList.length ≠ size ∨ off + v.cells.toList.length > cs.length then none else fillL place (over cs off v.cells.toList) rest
theorem over_get {cs vs : List Value} {off : Nat} (h : off + vs.length ≤ cs.length) (i : Nat) : (over cs off vs)[i]? = if i < off then cs[i]? else if i < off + vs.length then vs[i - off]? else cs[i]? := by
  have hmin : min off cs.length = off := by omega
  unfold over
  by_cases h1 : i < off
  · rw [if_pos h1, List.append_assoc, List.getElem?_append_left (by rw [List.length_take]; omega), List.getElem?_take, if_pos h1]
  · rw [if_neg h1, List.append_assoc, List.getElem?_append_right (by rw [List.length_take]; omega), List.length_take, hmin]
    by_cases h2 : i < off + vs.length
    · rw [if_pos h2, List.getElem?_append_left (by omega)]
    · rw [if_neg h2, List.getElem?_append_right (by omega), List.getElem?_drop]
      congr 1; omega
theorem foldl_over : ∀ (l : List Value) (j off : Nat) (cs : Array Value), off + j + l.length ≤ cs.size → (l.zipIdx j).foldl (fun cs (c, j) => cs.setIfInBounds (off + j) c) cs = (over cs.toList (off + j) l).toArray
  | [], j, off, cs, h => by simp [over]
  | v :: l, j, off, cs, h => by
    simp only [List.length_cons] at h
    have hsz : cs.toList.length = cs.size := Array.length_toList
    simp only [List.zipIdx_cons, List.foldl_cons]
    rw [foldl_over l (j + 1) off _ (by simp; omega)]
    congr 1
    apply List.ext_getElem?
    intro i
    rw [over_get (by simp; omega), over_get (by simp; omega)]
    simp only [Array.toList_setIfInBounds, List.length_cons, List.getElem?_set]
    by_cases h1 : i < off + j
    · rw [if_pos (by omega), if_neg (by omega), if_pos h1]
    · by_cases h2 : i = off + j
      · subst h2
        rw [if_pos (by omega), if_pos rfl, if_pos (by omega), if_neg h1, if_pos (by omega)]
        simp
      · rw [if_neg (by omega), if_neg h1]
        by_cases h3 : i < off + (j + 1) + l.length
        · rw [if_pos h3, if_pos (by omega)]
          have : i - (off + j) = (i - (off + (j + 1))) + 1 := by omega
          rw [this]; simp
        · rw [if_neg h3, if_neg (by omega), if_neg (by omega)]
theorem fill_list (place : Nat → Option (Nat × Nat)) : ∀ (parts : List (Nat × Value)) (cs : List Value), Instr.fill place cs.toArray parts = (fillL place cs parts).map List.toArray
  | [], cs => rfl
  | (i, v) :: rest, cs => by
    unfold Instr.fill fillL
    cases hp : place i with
    | none => rfl
    | some p =>
      obtain ⟨off, size⟩ := p
      simp only
      by_cases hc : v.cells.toList.length ≠ size ∨ off + v.cells.toList.length > cs.length
      · rw [if_pos (by simpa using hc), if_pos hc]; rfl
      · rw [if_neg (by simpa using hc), if_neg hc]
        rw [← fill_list place rest]
        congr 1
        have h2 : off + 0 + v.cells.toList.length ≤ cs.toArray.size := by simp at hc ⊢; omega
        have := foldl_over v.cells.toList 0 off cs.toArray h2
        rw [Nat.add_zero] at this
        rw [← Array.foldl_toList]
        simpa using this
theorem fillL_nil (place : Nat → Option (Nat × Nat)) (cs : List Value) : fillL place cs [] = some cs := rfl
def fillO (p : Option (Nat × Nat)) (place : Nat → Option (Nat × Nat)) (cs l : List Value) (rest : List (Nat × Value)) : Option (List Value) := match p with
  | none => none
  | some (off, size) => if l.length ≠ size ∨ off + l.length > cs.length then none else fillL place (over cs off l) rest
theorem fillL_cons (place : Nat → Option (Nat × Nat)) (cs : List Value) (i : Nat) (v : Value) (rest : List (Nat × Value)) : fillL place cs ((i, v) :: rest) = fillO (place i) place cs v.cells.toList rest := by
  unfold fillO
  rw [fillL]
theorem fillO_some (off size : Nat) (place : Nat → Option (Nat × Nat)) (cs l : List Value) (rest : List (Nat × Value)) : fillO (some (off, size)) place cs l rest = if l.length = size ∧ off + l.length ≤ cs.length then fillL place (over cs off l) rest else none := by
  unfold fillO
  simp only
  split
  · rw [if_neg (by omega)]
  · rw [if_pos (by omega)]
def undB (o : Option TypeDesc) (v : Value) : Option Value := match o with | some .bool => some v | _ => none
def undP (o : Option TypeDesc) (v : Value) : Option Value := match o with | some (.pointer _) => some v | _ => none
def undS (o : Option TypeDesc) (v : Value) : Option Value := match o with | some (.slice _) => some v | _ => none
def undM (o : Option TypeDesc) (v : Value) : Option Value := match o with | some (.map _ _) => some v | _ => none
theorem undB_bool {v : Value} : undB (some .bool) v = some v := rfl
theorem undP_ptr {v : Value} {e : TypeId} : undP (some (.pointer e)) v = some v := rfl
theorem undS_slice {v : Value} {e : TypeId} : undS (some (.slice e)) v = some v := rfl
theorem undM_map {v : Value} {a b : TypeId} : undM (some (.map a b)) v = some v := rfl
section
variable {X : Prg} {t : TypeId}
theorem eq_bool (a b : Bool) : binOpv X .eql t (.bool a) (.bool b) = undB (X.und t) (.bool (a == b)) := by
  simp only [binOpv, eqv, eqv0, undB]
  cases X.und t with
  | none => rfl
  | some d => cases d <;> rfl
theorem ne_bool (a b : Bool) : binOpv X .neq t (.bool a) (.bool b) = undB (X.und t) (.bool (!(a == b))) := by
  simp only [binOpv, eqv, eqv0, undB]
  cases X.und t with
  | none => rfl
  | some d => cases d <;> rfl
theorem eq_ptr_nil (b : Option Addr) : binOpv X .eql t (.pointer b) (.pointer none) = undP (X.und t) (.bool b.isNone) := by
  cases b <;> simp only [binOpv, eqv, eqv0, undP] <;> (cases X.und t with
  | none => rfl
  | some d => cases d <;> rfl)
theorem ne_ptr_nil (b : Option Addr) : binOpv X .neq t (.pointer b) (.pointer none) = undP (X.und t) (.bool b.isSome) := by
  cases b <;> simp only [binOpv, eqv, eqv0, undP] <;> (cases X.und t with
  | none => rfl
  | some d => cases d <;> rfl)
theorem eq_slice_nil (b : Option Addr) (l c l' c' : Nat) : binOpv X .eql t (.slice b l c) (.slice none l' c') = undS (X.und t) (.bool b.isNone) := by
  cases b <;> simp only [binOpv, eqv, eqv0, undS] <;> (cases X.und t with
  | none => rfl
  | some d => cases d <;> rfl)
theorem ne_slice_nil (b : Option Addr) (l c l' c' : Nat) : binOpv X .neq t (.slice b l c) (.slice none l' c') = undS (X.und t) (.bool b.isSome) := by
  cases b <;> simp only [binOpv, eqv, eqv0, undS] <;> (cases X.und t with
  | none => rfl
  | some d => cases d <;> rfl)
def aggO (o : Option Ty) : Bool := match o with | some ty => ty.agg | none => false
def flatO (o : Option (List FK)) (g : Bool) (x y : List Value) : Option Bool := match o, g with | some ks, true => flats ks x y | _, _ => none
def andO (a b : Option Bool) : Option Bool := match a, b with | some a, some b => some (a && b) | _, _ => none
theorem aggO_some {ty : Ty} : aggO (some ty) = ty.agg := rfl
theorem flatO_some {ks : List FK} {x y : List Value} : flatO (some ks) true x y = flats ks x y := rfl
theorem andO_some {a b : Bool} : andO (some a) (some b) = some (a && b) := rfl
theorem eqv_agg (xs ys : Array Value) : eqv X t (.agg xs) (.agg ys) = flatO (kindsOf X 8 t) (aggO (X.ty t)) xs.toList ys.toList := by
  simp only [eqv, aggO, flatO]
  cases X.ty t with
  | none => cases kindsOf X 8 t <;> rfl
  | some ty => cases kindsOf X 8 t with
    | none => rfl
    | some ks => cases h : ty.agg <;> simp [h]
theorem eq_agg (xs ys : Array Value) : binOpv X .eql t (.agg xs) (.agg ys) = (flatO (kindsOf X 8 t) (aggO (X.ty t)) xs.toList ys.toList).map .bool := by rw [← eqv_agg]; rfl
theorem ne_agg (xs ys : Array Value) : binOpv X .neq t (.agg xs) (.agg ys) = (flatO (kindsOf X 8 t) (aggO (X.ty t)) xs.toList ys.toList).map fun b => .bool (!b) := by rw [← eqv_agg]; rfl
theorem flats_nil : flats [] [] [] = some true := rfl
theorem flats_cons (k : FK) (ks : List FK) (x y : Value) (xs ys : List Value) : flats (k :: ks) (x :: xs) (y :: ys) = andO (flat k x y) (flats ks xs ys) := by
  simp only [flats, andO]
  cases flat k x y <;> cases flats ks xs ys <;> rfl
theorem flat_int (k : IntKind) (a b : Int) : flat (.int k) (.int k a) (.int k b) = some (decide (a = b)) := by
  simp only [flat, and_self, if_true]
  by_cases h : a = b <;> simp [h]
theorem flat_bool (a b : Bool) : flat .bool (.bool a) (.bool b) = some (a == b) := rfl
theorem flat_str (a b : ByteArray) : flat .str (.string a) (.string b) = some (a.data.toList == b.data.toList) := rfl
theorem eq_str (a b : ByteArray) : binOpv X .eql t (.string a) (.string b) = some (.bool (a.data.toList == b.data.toList)) := rfl
theorem ne_str (a b : ByteArray) : binOpv X .neq t (.string a) (.string b) = some (.bool (!(a.data.toList == b.data.toList))) := rfl
end
theorem drop_at {α : Type} {l : List α} {i : Nat} {a : α} (h : l[i]? = some a) : l.drop i = a :: l.drop (i + 1) := by
  obtain ⟨h1, h2⟩ := List.getElem?_eq_some_iff.1 h
  rw [List.drop_eq_getElem_cons h1, h2]
def partsOf (c : Code) (j : Nat) : List (Nat × Operand) := match c with
  | .region _ ops _ => match ops[j]? with
    | some o => match o.op with | .buildSlice _ _ ps => ps.toList | _ => []
    | none => []
  | _ => []
def constI : Operand → Option (IntKind × Int)
  | .const (.int k v) => some (k, v)
  | _ => none
theorem constI_some {x : Operand} {k : IntKind} {v : Int} (h : constI x = some (k, v)) : x = .const (.int k v) := by
  unfold constI at h
  split at h
  · cases h; rfl
  · cases h
def intsOf (k : IntKind) : List (Nat × Operand) → Nat → Option (List Int)
  | [], _ => some []
  | p :: r, j => match constI p.2 with
    | some q => if p.1 = j ∧ q.1 = k then (intsOf k r (j + 1)).map (q.2 :: ·) else none
    | none => none
def intsAt (k : IntKind) (c : Code) (j : Nat) : List Int := (intsOf k (partsOf c j) 0).getD []
def strAt (c : Code) (j : Nat) : ByteArray := match c with
  | .region _ ops _ => match ops[j]? with
    | some o => match o.op with | .assign (.const (.string b)) => b | _ => .empty
    | none => .empty
  | _ => .empty
theorem reps_len (z : List Value) : ∀ n, (reps z n).length = n * z.length
  | 0 => by simp [reps]
  | n + 1 => by simp [reps, reps_len z n, Nat.succ_mul]; omega
def withinL (v : Int) : List Int → Bool
  | a :: b :: l => (decide (a ≤ v) && decide (v ≤ b)) || withinL v l
  | _ => false
end Go.Proofs.Yticllcglldbffaa.Ab
end
section
namespace Go.Proofs.Yticllcglldbffaa.Ab
open Go.RowKit Go.Deep
theorem cells_of_array {H : Type} {enc : TypeId × Value → H} {P : Program} {W : World} {base : Nat} {spare : Nat → Bool} {held : Bool} {nm : String} {g t n e fuel : Nat} {k : IntKind} {cs : Array Value} {l : List Value} {D : List (DataW H)} {pl : List MemPlace} (hg : P.globalNamed nm = some g) (hv : W.var? P nm = some cs)
    (ht : P.underlying t = some (.array n e)) (he : P.underlying e = some (.int k)) (hc : P.cellsOf e = 1) (hd : DataW.trod enc P W base spare held fuel t cs.toList = some (.agg D, pl)) (hD : D = l.map fun v => match v with | .int k n => .lit (.int k n) | _ => .nil) :
    (0 < n → g < W.heap.size) ∧ ∀ i v, l[i]? = some v → W.cell? ⟨g, i, none⟩ = some v := by
  obtain ⟨xs, m, _, hx, hlen, hn, hel⟩ := DataW.trod_array ht hd
  simp only [Prod.mk.injEq, DataW.agg.injEq] at hx
  have at_ : ∀ i, i < n → ∃ q, cs[i]? = some (.int k q) ∧ D[i]? = some (.lit (.int k q)) := by
    intro i hi
    have h1 := hel i hi
    rw [hc, Nat.mul_one] at h1
    obtain ⟨y, hy⟩ : ∃ y, xs[i]? = some y := ⟨_, List.getElem?_eq_getElem (by omega)⟩
    rw [hy] at h1
    obtain ⟨q, e1, e2, _⟩ := DataW.trod_int he h1
    refine ⟨q, ?_, ?_⟩
    · have : cs.toList[i]? = some (.int k q) := by
        have h2 := congrArg (fun l => l[0]?) e1
        simpa [List.getElem?_take, List.getElem?_drop] using h2
      simpa using this
    · rw [hx.1, List.getElem?_map, hy, e2]; rfl
  have hcell := World.var?_cell hg hv
  refine ⟨fun hn0 => ?_, fun i v hi => ?_⟩
  · obtain ⟨q, h1, _⟩ := at_ 0 hn0
    have h2 := hcell 0
    rw [h1] at h2
    unfold World.cell? at h2
    rcases Nat.lt_or_ge g W.heap.size with h3 | h3
    · exact h3
    · simp [Array.getElem?_eq_none h3] at h2
  · have hil : i < n := by
      have := congrArg List.length hx.1
      rw [hD] at this
      simp only [List.length_map] at this
      have h2 := (List.getElem?_eq_some_iff.1 hi).1
      omega
    obtain ⟨q, h1, h2⟩ := at_ i hil
    rw [hcell i, h1]
    rw [hD, List.getElem?_map, hi] at h2
    simp only [Option.map_some, Option.some.injEq] at h2
    cases v <;> simp_all
theorem laidIn_cons {p : Nat × List Value} {l : List (Nat × List Value)} {W : World} (h1 : p.1 < W.heap.size) (h2 : ∀ i v, p.2[i]? = some v → W.cell? ⟨p.1, i, none⟩ = some v) (h : LaidIn l W) : LaidIn (p :: l) W := by
  intro q hq
  rcases List.mem_cons.1 hq with rfl | hq
  · exact ⟨h1, h2⟩
  · exact h q hq
theorem laidIn_nil {W : World} : LaidIn [] W := fun q hq => by cases hq
end Go.Proofs.Yticllcglldbffaa.Ab
end
section
namespace Go.Proofs.Yticllcglldbffaa.Ab
open Go.RowKit Go.Deep Go.WideShapes
inductive TD where
  | int (k : IntKind)
  | bool
  | str
  | slice (e : TD)
  | one (a : TD)
  | more (a r : TD)
@[reducible] def TD.T : TD → Type
  | .int _ => Int
  | .bool => Bool
  | .str => ByteArray
  | .slice e => List e.T
  | .one a => a.T
  | .more a r => a.T × r.T
def TD.size : TD → Nat
  | .int _ | .bool | .str | .slice _ => 1
  | .one a => a.size
  | .more a r => a.size + r.size
def TD.fit (P : Program) : TD → TypeId ⊕ (List Field × Nat) → Bool
  | .int k, .inl t => (match P.underlying t with | some (.int k') => decide (k' = k) | _ => false) && P.cellsOf t == 1
  | .bool, .inl t => (match P.underlying t with | some .bool => true | _ => false) && P.cellsOf t == 1
  | .str, .inl t => (match P.underlying t with | some .string => true | _ => false) && P.cellsOf t == 1
  | .slice e, .inl t => (match P.underlying t with | some (.slice u) => e.fit P (.inl u) | _ => false) && P.cellsOf t == 1
  | .one a, .inl t => (match P.underlying t with | some (.struct fs) => (match fs.toList with | [f] => f.offset == 0 && a.fit P (.inl f.type) | _ => false) | _ => false) && P.cellsOf t == a.size
  | .more a r, .inl t => (match P.underlying t with | some (.struct fs) => (match fs.toList with | f :: fl => f.offset == 0 && a.fit P (.inl f.type) && r.fit P (.inr (fl, a.size)) | _ => false) | _ => false) && P.cellsOf t == a.size + r.size
  | .one a, .inr (fl, off) => match fl with | [f] => f.offset == off && a.fit P (.inl f.type) | _ => false
  | .more a r, .inr (fl, off) => match fl with | f :: fl => f.offset == off && a.fit P (.inl f.type) && r.fit P (.inr (fl, off + a.size)) | _ => false
  | _, .inr _ => false
theorem TD.fit_size {P : Program} : ∀ (d : TD) (t : TypeId), d.fit P (.inl t) = true → P.cellsOf t = d.size
  | .int _, t, h | .bool, t, h | .str, t, h | .slice _, t, h | .one _, t, h | .more _ _, t, h => by
    simp only [TD.fit, Bool.and_eq_true, beq_iff_eq] at h
    exact h.2
def TD.Enc (s : St) : (d : TD) → d.T → List Value → Prop
  | .int k, n, cs => cs = [.int k n] ∧ (Lit.int k n).wf = true
  | .bool, b, cs => cs = [.bool b]
  | .str, b, cs => cs = [.string b] ∧ b.size ≤ maxLen
  | .slice e, l, cs => (cs = [.slice none 0 0] ∧ l = []) ∨ ∃ a cap cells, cs = [.slice (some a) l.length cap] ∧ (Ro s a (l.length * e.size) cells ∧ l.length ≤ cap / 2) ∧ ∀ i x, l[i]? = some x → e.Enc s x ((cells.drop (i * e.size)).take e.size)
  | .one a, x, cs => a.Enc s x cs
  | .more a r, p, cs => ∃ c1 c2, cs = c1 ++ c2 ∧ a.Enc s p.1 c1 ∧ r.Enc s p.2 c2
theorem TD.Enc.length {s : St} : ∀ (d : TD) (x : d.T) (cs : List Value), d.Enc s x cs → cs.length = d.size
  | .int _, _, _, h => by rw [h.1]; rfl
  | .bool, _, _, h => by rw [show _ = _ from h]; rfl
  | .str, _, _, h => by rw [h.1]; rfl
  | .slice _, _, _, h => by rcases h with h | ⟨_, _, _, h, _⟩ <;> (first | rw [h.1] | rw [h]) <;> rfl
  | .one a, x, cs, h => TD.Enc.length a x cs h
  | .more a r, p, cs, ⟨c1, c2, h, h1, h2⟩ => by rw [h, List.length_append, TD.Enc.length a _ _ h1, TD.Enc.length r _ _ h2]; rfl
theorem TD.Enc.keep {s s' : St} (k : RoKeep s s') : ∀ (d : TD) (x : d.T) (cs : List Value), d.Enc s x cs → d.Enc s' x cs
  | .int _, _, _, h => h
  | .bool, _, _, h => h
  | .str, _, _, h => h
  | .slice e, l, cs, h => by
    rcases h with h | ⟨a, cap, cells, h1, h2, h3⟩
    · exact .inl h
    · exact .inr ⟨a, cap, cells, h1, ⟨h2.1.keep k, h2.2⟩, fun i x hx => TD.Enc.keep k e x _ (h3 i x hx)⟩
  | .one a, x, cs, h => TD.Enc.keep k a x cs h
  | .more a r, p, cs, ⟨c1, c2, h, h1, h2⟩ => ⟨c1, c2, h, TD.Enc.keep k a _ _ h1, TD.Enc.keep k r _ _ h2⟩
theorem Phi.le_trans {φ1 φ2 φ3 : Phi} (h : φ1.le φ2) (k : φ2.le φ3) : φ1.le φ3 := fun b e l hb => k _ _ _ (h _ _ _ hb)
theorem Ready.empty {X : Prg} {φ : Phi} {s : St} {w : World} (h : Ready X φ s w) (x : Addr) (hpos : 0 < w.heap.size) :
    ∃ φ', Ready X φ' (s.push (.ro [])) w ∧ φ.le φ' ∧ VRel φ' (.slice (some ⟨s.size, 0, none⟩) 0 (capO 0)) (.slice (some x) 0 0) ∧ Ro (s.push (.ro [])) ⟨s.size, 0, none⟩ 0 [] := by
  obtain ⟨h1, h2⟩ := h.push ⟨0, 0, 0, 0⟩ hpos [] (fun i v hv => by simp at hv)
  refine ⟨_, h1, h2, ?_, ⟨[], by rw [St.get_push, if_pos rfl]⟩, ?_⟩
  · exact VRel.slice _ ⟨0, 0, 0, 0⟩ _ _ _ _ (by simp [Phi.add, ep]) (.inr rfl) (Nat.le_refl _) (by simp [capO]) (by simp [capO]) (by simp)
  · unfold St.rd
    rw [St.get_push, if_pos rfl]
    simp [ep]
theorem cells?_at {w : World} {base n : Nat} {a : Addr} {cs : List Value} (h : w.cells? base a n = some cs) : cs.length = n ∧ ∀ i v, cs[i]? = some v → w.cell? (a.add i) = some v := by
  obtain ⟨_, h2, h3⟩ := World.cells?_some h
  refine ⟨h2, fun i v hv => ?_⟩
  have hi : i < n := by
    have := (List.getElem?_eq_some_iff.1 hv).1
    omega
  have := h3 i hi
  rw [hv] at this
  exact this
theorem cell?_there {w : World} {a : Addr} {v : Value} (h : w.cell? a = some v) : a.spot = none ∧ a.block < w.heap.size := by
  unfold World.cell? at h
  split at h
  · rename_i c t fr hb
    split at h
    · cases h
    · rename_i hs
      refine ⟨by simpa using hs, ?_⟩
      rcases Nat.lt_or_ge a.block w.heap.size with h1 | h1
      · exact h1
      · rw [Array.getElem?_eq_none h1] at hb; cases hb
  · cases h
section
variable {H : Type} {enc : TypeId × Value → H} {P : Program} {w : World} {base : Nat} {spare : Nat → Bool} {held : Bool} {X : Prg}
def OpenAt (enc : TypeId × Value → H) (P : Program) (w : World) (base : Nat) (spare : Nat → Bool) (held : Bool) (X : Prg) (d : TD) (tt : TypeId ⊕ (List Field × Nat)) : Prop := match tt with
  | .inl t => ∀ fuel cs x φ s, DataW.trod enc P w base spare held fuel t cs = some x → Ready X φ s w → ∃ (φ' : Phi) (s' : St) (y : d.T) (cs' : List Value), Ready X φ' s' w ∧ φ.le φ' ∧ Ext s s' ∧ VRels φ' cs' cs ∧ d.Enc s' y cs'
  | .inr (fl, off) => ∀ n (cs : List Value) φ s, (∀ (i : Nat) f, fl[i]? = some f → ∃ x, DataW.trod enc P w base spare held n f.type ((cs.drop f.offset).take (P.cellsOf f.type)) = some x) → Ready X φ s w →
      ∃ (φ' : Phi) (s' : St) (y : d.T) (cs' : List Value), Ready X φ' s' w ∧ φ.le φ' ∧ Ext s s' ∧ VRels φ' cs' ((cs.drop off).take d.size) ∧ d.Enc s' y cs'
theorem take_add_split {α : Type} (l : List α) (o a b : Nat) : (l.drop o).take (a + b) = (l.drop o).take a ++ (l.drop (o + a)).take b := by
  rw [List.take_add, List.drop_drop]
theorem openAt (hsp : ∀ b, spare b = true) (hpos : 0 < w.heap.size) : ∀ (d : TD) (tt : TypeId ⊕ (List Field × Nat)), d.fit P tt = true → OpenAt enc P w base spare held X d tt
  | .int k, .inl t, hf => by
    intro fuel cs x φ s h hr
    simp only [TD.fit, Bool.and_eq_true] at hf
    have hu : P.underlying t = some (.int k) := by
      have := hf.1
      split at this
      · rename_i k' hk; rw [hk, of_decide_eq_true this]
      · cases this
    obtain ⟨n, rfl, _, hwf⟩ := DataW.trod_int hu h
    exact ⟨φ, s, n, [.int k n], hr, fun _ _ _ h => h, Ext.refl s, .cons _ _ _ _ (.int _ _) .nil, rfl, hwf⟩
  | .bool, .inl t, hf => by
    intro fuel cs x φ s h hr
    simp only [TD.fit, Bool.and_eq_true] at hf
    have hu : P.underlying t = some .bool := by
      have := hf.1
      split at this
      · assumption
      · cases this
    obtain ⟨b, rfl, _⟩ := DataW.trod_bool hu h
    exact ⟨φ, s, b, [.bool b], hr, fun _ _ _ h => h, Ext.refl s, .cons _ _ _ _ (.bool _) .nil, rfl⟩
  | .str, .inl t, hf => by
    intro fuel cs x φ s h hr
    simp only [TD.fit, Bool.and_eq_true] at hf
    have hu : P.underlying t = some .string := by
      have := hf.1
      split at this
      · assumption
      · cases this
    obtain ⟨b, rfl, _, hb⟩ := DataW.trod_string hu h
    exact ⟨φ, s, b, [.string b], hr, fun _ _ _ h => h, Ext.refl s, .cons _ _ _ _ (.string _) .nil, rfl, hb⟩
  | .slice e, .inl t, hf => by
    intro fuel cs x φ s h hr
    simp only [TD.fit, Bool.and_eq_true] at hf
    obtain ⟨u, hu, hfe⟩ : ∃ u, P.underlying t = some (.slice u) ∧ e.fit P (.inl u) = true := by
      have := hf.1
      split at this
      · rename_i u hu; exact ⟨u, hu, this⟩
      · cases this
    have ih := openAt hsp hpos e (.inl u) hfe
    have hC := TD.fit_size e u hfe
    rcases open_slice hu h with ⟨rfl, _⟩ | ⟨a, len, cap, m, n, D, Pl, rfl, hb, hlc, hcm, hm, _, hi⟩
    · exact ⟨φ, s, [], [.slice none 0 0], hr, fun _ _ _ h => h, Ext.refl s, .cons _ _ _ _ .nilSlice .nil, .inl ⟨rfl, rfl⟩⟩
    · rw [hsp, if_pos rfl] at hm
      subst hm
      rw [hC] at hi
      by_cases hcap : m = 0
      · subst hcap
        obtain rfl : len = 0 := by omega
        obtain ⟨φ', g1, g2, g3, g4⟩ := hr.empty a hpos
        exact ⟨φ', _, [], _, g1, g2, Ext.push _ _, .cons _ _ _ _ g3 .nil, .inr ⟨_, _, [], rfl, ⟨by simpa using g4, Nat.zero_le _⟩, fun i x hx => by simp at hx⟩⟩
      · -- the elements, one by one
        have build : ∀ j, j ≤ len → ∃ (φ' : Phi) (s' : St) (ys : List e.T) (rc cells : List Value), Ready X φ' s' w ∧ φ.le φ' ∧ Ext s s' ∧ ys.length = j ∧ rc.length = j * e.size ∧ (∀ i v, rc[i]? = some v → w.cell? (a.add i) = some v) ∧
            VRels φ' cells rc ∧ ∀ i x, ys[i]? = some x → e.Enc s' x ((cells.drop (i * e.size)).take e.size) := by
          intro j
          induction j with
          | zero => intro _; exact ⟨φ, s, [], [], [], hr, fun _ _ _ h => h, Ext.refl s, rfl, by simp, fun i v hv => by simp at hv, .nil, fun i x hx => by simp at hx⟩
          | succ j ihj =>
            intro hj
            obtain ⟨φ1, s1, ys, rc, cells, k1, k2, k3, k4, k5, k6, k7, k8⟩ := ihj (by omega)
            obtain ⟨cs', c1, c2⟩ := hi j (by omega)
            obtain ⟨c3, c4⟩ := cells?_at c1
            obtain ⟨φ2, s2, y, cs2, q1, q2, q3, q4, q5⟩ := ih n cs' _ φ1 s1 c2 k1
            have hcl := k7.length
            have hl2 := TD.Enc.length e y cs2 q5
            refine ⟨φ2, s2, ys ++ [y], rc ++ cs', cells ++ cs2, q1, Phi.le_trans k2 q2, k3.trans q3, by simp [k4], by rw [List.length_append, k5, c3, Nat.succ_mul], fun i v hv => ?_, (k7.mono q2).append q4, fun i x hx => ?_⟩
            · by_cases hlt : i < rc.length
              · rw [List.getElem?_append_left hlt] at hv; exact k6 i v hv
              · rw [List.getElem?_append_right (by omega)] at hv
                have := c4 _ _ hv
                rw [Go.Deep.add_add] at this
                rw [k5] at this hlt
                rw [show i = j * e.size + (i - j * e.size) by omega]
                exact this
            · by_cases hlt : i < ys.length
              · rw [List.getElem?_append_left hlt] at hx
                have h1 := TD.Enc.keep q3.keep e x _ (k8 i x hx)
                have hle : i * e.size + e.size ≤ cells.length := by
                  rw [hcl, k5, ← Nat.succ_mul]
                  exact Nat.mul_le_mul_right _ (by omega)
                rw [List.drop_append_of_le_length (by omega), List.take_append_of_le_length (by rw [List.length_drop]; omega)]
                exact h1
              · have hi2 : i = j := by
                  have := (List.getElem?_eq_some_iff.1 hx).1
                  simp at this; omega
                subst hi2
                rw [List.getElem?_append_right (by omega)] at hx
                simp [k4] at hx
                subst hx
                have : (cells ++ cs2).drop (i * e.size) = cs2 := by rw [← k5, ← hcl]; simp
                rw [this, List.take_of_length_le (by omega)]
                exact q5
        obtain ⟨φ1, s1, ys, rc, cells, k1, k2, k3, k4, k5, k6, k7, k8⟩ := build len (Nat.le_refl _)
        have hcl := k7.length
        have hthere : e.size ≠ 0 → a.spot = none ∧ a.block < w.heap.size := fun hne => by
          obtain ⟨cs', c1, c2⟩ := hi 0 (by omega)
          obtain ⟨c3, c4⟩ := cells?_at c1
          obtain ⟨v, hv⟩ : ∃ v, cs'[0]? = some v := ⟨_, List.getElem?_eq_getElem (by omega)⟩
          have := c4 0 v hv
          rw [Nat.zero_mul] at this
          exact cell?_there (show w.cell? a = some v by simpa [Addr.add] using this)
        have hne : e.size ≠ 0 := by
          have : ∀ d : TD, 0 < d.size := by
            intro d
            induction d with
            | one a ih => exact ih
            | more a r ih1 ih2 => simp only [TD.size]; omega
            | _ => simp [TD.size]
          have := this e; omega
        obtain ⟨t1, t2⟩ := hthere hne
        obtain ⟨g1, g2⟩ := k1.push ⟨a.block, a.off, m * e.size, e.size⟩ t2 cells (fun i v hv => by
          obtain ⟨v', e1, e2⟩ := k7.get i v hv
          refine ⟨v', ?_, e2⟩
          have := k6 i v' e1
          have ha : a.add i = ⟨a.block, a.off + i, none⟩ := by
            unfold Addr.add
            split
            · rename_i h0; subst h0; cases a; simp_all
            · rfl
          rw [ha] at this; exact this)
        refine ⟨_, _, ys, [.slice (some ⟨s1.size, 0, none⟩) len (capO len)], g1, Phi.le_trans k2 g2, k3.trans (Ext.push _ _), .cons _ _ _ _ ?_ .nil, .inr ⟨⟨s1.size, 0, none⟩, capO len, cells, by rw [k4], ⟨⟨⟨cells, by rw [St.get_push, if_pos rfl]⟩, ?_⟩, by rw [k4]; simp only [capO]; omega⟩, fun i x hx => TD.Enc.keep (RoKeep.push _ _) e x _ (k8 i x hx)⟩⟩
        · have ha : a = ⟨a.block, a.off + 0, none⟩ := by cases a; simp_all
          exact VRel.slice _ ⟨a.block, a.off, m * e.size, e.size⟩ _ _ _ _ (by simp [Phi.add, ep]) (.inl ha) hlc (by simp only [capO]; omega) (by simp only [capO]; omega) (fun _ _ => Nat.le_refl _)
        · unfold St.rd
          rw [St.get_push, if_pos rfl]
          refine (if_pos ⟨rfl, by simp only [Nat.zero_add]; rw [hcl, k5, k4]; exact Nat.le_refl _⟩).trans ?_
          rw [List.drop_zero, List.take_of_length_le (by rw [hcl, k5, k4]; exact Nat.le_refl _)]
  | .one a, .inl t, hf => by
    intro fuel cs x φ s h hr
    have hsz := TD.fit_size (.one a) t hf
    simp only [TD.fit, Bool.and_eq_true] at hf
    obtain ⟨fs, f, hu, hfs, hoff, hfa⟩ : ∃ fs f, P.underlying t = some (.struct fs) ∧ fs.toList = [f] ∧ f.offset = 0 ∧ a.fit P (.inl f.type) = true := by
      have := hf.1
      split at this
      · rename_i fs hu
        split at this
        · rename_i f hfs
          simp only [Bool.and_eq_true, beq_iff_eq] at this
          exact ⟨fs, f, hu, hfs, this.1, this.2⟩
        · cases this
      · cases this
    obtain ⟨xs, n, _, _, hl, hxl, hat⟩ := DataW.trod_struct hu h
    have h0 := hat 0 f (by rw [← Array.getElem?_toList, hfs]; rfl)
    have hx : ∃ x0, xs[0]? = some x0 := ⟨_, List.getElem?_eq_getElem (by rw [hxl, ← Array.length_toList, hfs]; simp)⟩
    obtain ⟨x0, hx0⟩ := hx
    rw [hx0, hoff, List.drop_zero, TD.fit_size a _ hfa, List.take_of_length_le (by rw [hl, hsz]; exact Nat.le_refl _)] at h0
    exact openAt hsp hpos a (.inl f.type) hfa n cs x0 φ s h0 hr
  | .more a r, .inl t, hf => by
    intro fuel cs x φ s h hr
    have hsz := TD.fit_size (.more a r) t hf
    simp only [TD.fit, Bool.and_eq_true] at hf
    obtain ⟨fs, f, fl, hu, hfs, hoff, hfa, hfr⟩ : ∃ fs f fl, P.underlying t = some (.struct fs) ∧ fs.toList = f :: fl ∧ f.offset = 0 ∧ a.fit P (.inl f.type) = true ∧ r.fit P (.inr (fl, a.size)) = true := by
      have := hf.1
      split at this
      · rename_i fs hu
        split at this
        · rename_i f fl hfs
          simp only [Bool.and_eq_true, beq_iff_eq] at this
          exact ⟨fs, f, fl, hu, hfs, this.1.1, this.1.2, this.2⟩
        · cases this
      · cases this
    obtain ⟨xs, n, _, _, hl, hxl, hat⟩ := DataW.trod_struct hu h
    have hfld : ∀ (i : Nat) g, (f :: fl)[i]? = some g → ∃ y, DataW.trod enc P w base spare held n g.type ((cs.drop g.offset).take (P.cellsOf g.type)) = some y := fun i g hg => by
      have h1 := hat i g (by rw [← Array.getElem?_toList, hfs]; exact hg)
      have hil : i < xs.length := by
        rw [hxl, ← Array.length_toList, hfs]
        exact (List.getElem?_eq_some_iff.1 hg).1
      exact ⟨xs[i], by rw [h1, List.getElem?_eq_getElem hil]⟩
    obtain ⟨y0, h0⟩ := hfld 0 f rfl
    rw [hoff, List.drop_zero, TD.fit_size a _ hfa] at h0
    obtain ⟨φ1, s1, y1, c1, q1, q2, q3, q4, q5⟩ := openAt hsp hpos a (.inl f.type) hfa n _ y0 φ s h0 hr
    obtain ⟨φ2, s2, y2, c2, p1, p2, p3, p4, p5⟩ := openAt hsp hpos r (.inr (fl, a.size)) hfr n cs φ1 s1 (fun i g hg => hfld (i + 1) g (by simpa using hg)) q1
    refine ⟨φ2, s2, (y1, y2), c1 ++ c2, p1, Phi.le_trans q2 p2, q3.trans p3, ?_, c1, c2, rfl, TD.Enc.keep p3.keep a _ _ q5, p5⟩
    have hcs : cs = cs.take a.size ++ (cs.drop a.size).take r.size := by
      rw [List.take_of_length_le (l := cs.drop a.size) (by rw [List.length_drop, hl, hsz]; simp only [TD.size]; omega), List.take_append_drop]
    rw [hcs]
    exact (q4.mono p2).append p4
  | .one a, .inr (fl, off), hf => by
    intro n cs φ s hfl hr
    simp only [TD.fit] at hf
    split at hf
    · rename_i f
      simp only [Bool.and_eq_true, beq_iff_eq] at hf
      obtain ⟨x, hx⟩ := hfl 0 f rfl
      rw [hf.1, TD.fit_size a _ hf.2] at hx
      exact openAt hsp hpos a (.inl f.type) hf.2 n _ x φ s hx hr
    · cases hf
  | .more a r, .inr (fl, off), hf => by
    intro n cs φ s hfl hr
    simp only [TD.fit] at hf
    split at hf
    · rename_i f fl'
      simp only [Bool.and_eq_true, beq_iff_eq] at hf
      obtain ⟨x, hx⟩ := hfl 0 f rfl
      rw [hf.1.1, TD.fit_size a _ hf.1.2] at hx
      obtain ⟨φ1, s1, y1, c1, q1, q2, q3, q4, q5⟩ := openAt hsp hpos a (.inl f.type) hf.1.2 n _ x φ s hx hr
      obtain ⟨φ2, s2, y2, c2, p1, p2, p3, p4, p5⟩ := openAt hsp hpos r (.inr (fl', off + a.size)) hf.2 n cs φ1 s1 (fun i g hg => hfl (i + 1) g (by simpa using hg)) q1
      refine ⟨φ2, s2, (y1, y2), c1 ++ c2, p1, Phi.le_trans q2 p2, q3.trans p3, ?_, c1, c2, rfl, TD.Enc.keep p3.keep a _ _ q5, p5⟩
      show VRels φ2 (c1 ++ c2) ((cs.drop off).take (a.size + r.size))
      rw [take_add_split]
      exact (q4.mono p2).append p4
    · cases hf
  | .int _, .inr _, hf | .bool, .inr _, hf | .str, .inr _, hf | .slice _, .inr _, hf => by simp [TD.fit] at hf
theorem has_lt {r : Reach} {a : Addr} {e : TypeId} {n : Nat} (h : w.has P r base a e n) : a.block < w.heap.size := by
  unfold World.has at h
  obtain ⟨_, _, row, cells, h5, _⟩ := h
  unfold World.shape? at h5
  rcases Nat.lt_or_ge a.block w.heap.size with h6 | h6
  · exact h6
  · rw [Array.getElem?_eq_none h6] at h5; cases h5
theorem openSlice (hsp : ∀ b, spare b = true) {e : TD} {t : TypeId} (hf : (TD.slice e).fit P (.inl t) = true) {r : Reach} {v : Value} {d : DataW H} {p : List MemPlace} {b0 : Nat} (hv : Value.okWide P w r b0 t v) (h : DataW.Trod enc P w base spare held t v d p) {φ : Phi} {s : St} (hr : Ready X φ s w) :
    ∃ (φ' : Phi) (s' : St) (y : List e.T) (v' : Value), Ready X φ' s' w ∧ φ.le φ' ∧ Ext s s' ∧ VRel φ' v' v ∧ (TD.slice e).Enc s' y [v'] := by
  have hu : ∃ u, P.underlying t = some (.slice u) := by
    simp only [TD.fit, Bool.and_eq_true] at hf
    have := hf.1
    split at this
    · rename_i u hu; exact ⟨u, hu⟩
    · cases this
  obtain ⟨u, hu⟩ := hu
  obtain ⟨fuel, hfu⟩ := h
  obtain ⟨a, len, cap, rfl⟩ := okWide_slice hu hv
  cases a with
  | none =>
    obtain ⟨rfl, rfl⟩ : len = 0 ∧ cap = 0 := by
      simp only [Value.okWide, hu, Cell.okWide, Cell.ok] at hv
      cases len <;> cases cap <;> simp_all
    exact ⟨φ, s, [], _, hr, fun _ _ _ h => h, Ext.refl s, .nilSlice, .inl ⟨rfl, rfl⟩⟩
  | some a =>
    have hpos : 0 < w.heap.size := by
      simp only [Value.okWide, hu, Cell.okWide, Cell.ok] at hv
      have := has_lt hv.2.2
      omega
    obtain ⟨φ', s', y, cs', q1, q2, q3, q4, q5⟩ := openAt (X := X) hsp hpos (.slice e) (.inl t) hf fuel _ _ φ s hfu hr
    have e1 : (Value.slice (some a) len cap).cells.toList = [.slice (some a) len cap] := rfl
    rw [e1] at q4
    cases q4 with | cons v' _ l' _ k1 k2 =>
    cases k2
    exact ⟨φ', s', y, v', q1, q2, q3, k1, q5⟩
end
end Go.Proofs.Yticllcglldbffaa.Ab
end
