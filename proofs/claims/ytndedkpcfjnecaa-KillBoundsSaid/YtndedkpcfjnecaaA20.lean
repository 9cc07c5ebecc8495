/- What every run leaves as it was; slices that grow. -/
import Derived.Test.YtndedkpcfjnecaaA19
set_option linter.unusedSimpArgs false
set_option linter.unusedVariables false
set_option linter.unusedSectionVars false
namespace Go.Proofs.Ytndedkpcfjnecaa.Ab

section
variable {X : Prg} (R : St → St → Prop) (hr : ∀ s, R s s) (ht : ∀ s s1 s2, R s s1 → R s1 s2 → R s s2) (ha : ∀ ev op s v s', aop X ev op s = some (v, s') → R s s')
include hr ht ha
theorem stepOp_inv {call : Caller} (hc : ∀ f args s v s', call f args s = some (v, s') → R s s') {o : Oper} {ρ : Env} {s s' : St} {v : Value} (h : stepOp call X o ρ s = some (v, s')) : R s s' := by
  unfold stepOp at h
  split at h
  · split at h
    · exact hc _ _ _ _ _ h
    · cases h
  · exact ha _ _ _ _ _ h
theorem runOps_inv {call : Caller} (hc : ∀ f args s v s', call f args s = some (v, s') → R s s') {all : Array Oper} : ∀ (l : List Oper) (ρ : Env) (s : St) (ρ' : Env) (s' : St), runOps call X all l ρ s = some (ρ', s') → R s s'
  | [], ρ, s, ρ', s', h => by cases h; exact hr _
  | o :: l, ρ, s, ρ', s', h => by
    simp only [runOps] at h
    split at h
    · split at h
      · rename_i v s1 h1
        exact ht _ _ _ (stepOp_inv R hr ht ha hc h1) (runOps_inv hc l _ _ _ _ h)
      · cases h
    · exact runOps_inv hc l _ _ _ _ h
theorem region_inv {call : Caller} (hc : ∀ f args s v s', call f args s = some (v, s') → R s s') {ops : List Oper} {d : Bool} {ρ : Env} {s : St} {r : Env × St} (h : region call X ops d ρ s = some r) : R s r.2 := by
  unfold region at h
  split at h
  · cases h
  · rename_i T s1 h1
    have := runOps_inv R hr ht ha hc _ _ _ _ _ h1
    split at h
    · split at h
      · cases h; exact this
      · cases h
    · cases h; exact this
theorem exec_inv : ∀ n, (∀ c ρ s e ρ' s', exec X n c ρ s = some (e, ρ', s') → R s s') ∧ (∀ whole c ρ s e ρ' s', exec.jump X n whole c ρ s = some (e, ρ', s') → R s s') ∧ (∀ f args s v s', enter (exec X n) X f args s = some (v, s') → R s s')
  | 0 => by
    have h1 : ∀ c ρ s e ρ' s', exec X 0 c ρ s = some (e, ρ', s') → R s s' := fun c ρ s e ρ' s' h => by simp [exec] at h
    refine ⟨h1, fun whole c ρ s e ρ' s' h => by simp [exec.jump] at h, fun f args s v s' h => ?_⟩
    unfold enter at h
    split at h
    · split at h
      · cases h; exact hr _
      · cases h
    split at h
    · cases h
    · split at h
      · cases h
      · split at h
        · split at h
          · rename_i h2; simp [exec] at h2
          · rename_i h2; simp [exec] at h2
          · cases h
        · cases h
  | n + 1 => by
    obtain ⟨ih, ihj, ihc⟩ := exec_inv n
    have h1 : ∀ c ρ s e ρ' s', exec X (n + 1) c ρ s = some (e, ρ', s') → R s s' := by
      intro c ρ s e ρ' s' h
      cases c with
      | skip | label l | exit id | goto l | ret => simp only [exec, Option.some.injEq, Prod.mk.injEq] at h; obtain ⟨_, _, rfl⟩ := h; exact hr _
      | region id ops d =>
        simp only [exec, Option.map_eq_some_iff, Prod.mk.injEq] at h
        obtain ⟨p, h1, _, _, rfl⟩ := h
        exact region_inv R hr ht ha ihc h1
      | seq a b =>
        rw [exec] at h
        split at h
        · rename_i h2; exact ht _ _ _ (ih _ _ _ _ _ _ h2) (ih _ _ _ _ _ _ h)
        · exact ih _ _ _ _ _ _ h
      | cond c a b =>
        rw [exec] at h
        split at h
        · exact ih _ _ _ _ _ _ h
        · cases h
      | block id c =>
        rw [exec] at h
        split at h
        · rename_i h2
          split at h <;> (cases h; exact ih _ _ _ _ _ _ h2)
        · exact ih _ _ _ _ _ _ h
      | loop c =>
        rw [exec] at h
        split at h
        · rename_i h2; exact ht _ _ _ (ih _ _ _ _ _ _ h2) (ih _ _ _ _ _ _ h)
        · exact ih _ _ _ _ _ _ h
      | scope c => rw [exec] at h; exact ihj _ _ _ _ _ _ _ h
      | rangeFunc f ps a b => simp [exec] at h
      | refuse why => simp [exec] at h
    refine ⟨h1, fun whole c ρ s e ρ' s' h => ?_, fun f args s v s' h => ?_⟩
    · rw [exec.jump] at h
      split at h
      · rename_i h2
        split at h
        · exact ht _ _ _ (ih _ _ _ _ _ _ h2) (ihj _ _ _ _ _ _ _ h)
        · cases h; exact ih _ _ _ _ _ _ h2
      · exact ih _ _ _ _ _ _ h
    · unfold enter at h
      split at h
      · split at h
        · cases h; exact hr _
        · cases h
      split at h
      · cases h
      · split at h
        · cases h
        · split at h
          · split at h
            · rename_i h2
              simp only [Option.map_eq_some_iff, Prod.mk.injEq] at h
              obtain ⟨_, _, _, rfl⟩ := h
              exact h1 _ _ _ _ _ _ h2
            · rename_i h2
              simp only [Option.map_eq_some_iff, Prod.mk.injEq] at h
              obtain ⟨_, _, _, rfl⟩ := h
              exact h1 _ _ _ _ _ _ h2
            · cases h
          · cases h
end

/-! What may not be written stays as it is. -/
def RoKeep (s s' : St) : Prop := s.size ≤ s'.size ∧ ∀ b cs, s.get b = some (.ro cs) → s'.get b = some (.ro cs)
theorem RoKeep.refl (s : St) : RoKeep s s := ⟨Nat.le_refl _, fun _ _ h => h⟩
theorem RoKeep.trans {s s1 s2 : St} (h : RoKeep s s1) (k : RoKeep s1 s2) : RoKeep s s2 := ⟨Nat.le_trans h.1 k.1, fun b cs hb => k.2 b cs (h.2 b cs hb)⟩
theorem RoKeep.push (s : St) (o : AObj) : RoKeep s (s.push o) := ⟨by simp [St.size_push], fun b cs hb => by
  have := St.lt_of_get hb
  rw [St.get_push, if_neg (by omega)]; exact hb⟩
theorem RoKeep.set {s : St} {b : Nat} {o0 o : AObj} (h : s.get b = some o0) (h0 : isMut (some o0) = true) : RoKeep s (s.set b o) :=
  ⟨Nat.le_refl _, fun c cs hc => by
    rw [St.get_set h]
    split
    · rename_i he; subst he; rw [h] at hc; cases hc; cases h0
    · exact hc⟩
theorem wr_ro {s s' : St} {a : Addr} {vs : List Value} (h : s.wr a vs = some s') : RoKeep s s' := by
  unfold St.wr at h
  split at h
  · rename_i hb
    split at h
    · cases h; exact RoKeep.set hb rfl
    · cases h
  · cases h
theorem storev_ro {X : Prg} {s s' : St} {t : TypeId} {p v : Value} (h : storev X t p v s = some s') : RoKeep s s' := by
  unfold storev at h
  split at h
  · split at h
    · exact wr_ro h
    · cases h
  · cases h
theorem mapUpdate_ro {X : Prg} {s s' : St} {t : TypeId} {m k v : Value} (h : mapUpdatev X t m k v s = some s') : RoKeep s s' := by
  unfold mapUpdatev at h
  repeat' split at h
  all_goals first | (cases h; done) | (cases h; exact RoKeep.set (by assumption) rfl)
theorem delete_ro {X : Prg} {s s' : St} {t : TypeId} {m k : Value} (h : deletev X t m k s = some s') : RoKeep s s' := by
  unfold deletev at h
  repeat' split at h
  all_goals first | (cases h; done) | (cases h; exact RoKeep.set (by assumption) rfl)
theorem append_ro {te : Ty} {e n : Nat} {vs : List Value} {x v : Value} {s s' : St} (h : appendTo te e n vs x s = some (v, s')) : RoKeep s s' := by
  unfold appendTo at h
  repeat' split at h
  all_goals first
    | (cases h; done)
    | (cases h; exact RoKeep.refl _)
    | (cases h; exact RoKeep.push _ _)
    | (cases h; rename_i hw; exact wr_ro hw)
    | (cases h; exact RoKeep.set (by assumption) rfl)
theorem aop_ro {X : Prg} {ev : Operand → Value} {op : Op} {s s' : St} {v : Value} (h : aop X ev op s = some (v, s')) : RoKeep s s' := by
  unfold aop at h
  split at h
  all_goals first
    | (cases h; exact RoKeep.refl _)
    | (simp only [Option.map_eq_some_iff, Prod.mk.injEq] at h; obtain ⟨_, _, _, rfl⟩ := h; exact RoKeep.refl _)
    | (simp only [Option.map_eq_some_iff, Prod.mk.injEq] at h; obtain ⟨_, h1, _, rfl⟩ := h; first | exact storev_ro h1 | exact mapUpdate_ro h1)
    | (repeat' split at h
       all_goals first | (cases h; done) | (cases h; exact RoKeep.refl _) | (cases h; exact RoKeep.push _ _) | (cases h; exact RoKeep.set (by assumption) rfl))
    | skip
  · unfold convertv at h
    repeat' split at h
    all_goals first
      | (cases h; done)
      | (cases h; exact RoKeep.refl _)
      | (cases h; exact RoKeep.push _ _)
      | (simp only [Option.map_eq_some_iff, Prod.mk.injEq] at h; obtain ⟨_, _, _, rfl⟩ := h; exact RoKeep.refl _)
  · split at h
    · simp only [Option.map_eq_some_iff, Prod.mk.injEq] at h; obtain ⟨_, _, _, rfl⟩ := h; exact RoKeep.refl _
    · cases h
  · unfold builtinv at h
    repeat' split at h
    all_goals first
      | (cases h; done)
      | (cases h; exact RoKeep.refl _)
      | (simp only [Option.map_eq_some_iff, Prod.mk.injEq] at h; obtain ⟨_, _, _, rfl⟩ := h; exact RoKeep.refl _)
      | (simp only [Option.map_eq_some_iff, Prod.mk.injEq] at h; obtain ⟨_, h1, _, rfl⟩ := h; exact delete_ro h1)
      | skip
    · unfold appendv at h
      repeat' split at h
      all_goals first | (cases h; done) | exact append_ro h
    · unfold copyv copyTo at h
      repeat' split at h
      all_goals first
        | (cases h; done)
        | (cases h; exact RoKeep.refl _)
        | (simp only [Option.map_eq_some_iff, Prod.mk.injEq] at h; obtain ⟨_, h1, _, rfl⟩ := h; exact wr_ro h1)
    · unfold clearv at h
      repeat' split at h
      all_goals first
        | (cases h; done)
        | (cases h; exact RoKeep.refl _)
        | (simp only [Option.map_eq_some_iff, Prod.mk.injEq] at h; obtain ⟨_, h1, _, rfl⟩ := h; exact wr_ro h1)
theorem call_ro {X : Prg} {n f : Nat} {args : List Value} {s s' : St} {v : Value} (h : acall X n f args s = some (v, s')) : RoKeep s s' :=
  (exec_inv RoKeep RoKeep.refl (fun _ _ _ => RoKeep.trans) (fun _ _ _ _ _ => aop_ro) n).2.2 f args s v s' h
theorem WC_ro {X : Prg} {f : Nat} {args : List Value} {s : St} {Q : Value → St → Prop} (h : WC X f args s fun v s' => RoKeep s s' → Q v s') : WC X f args s Q :=
  let ⟨n, v, s', h1, h2⟩ := h
  ⟨n, v, s', h1, h2 (call_ro h1)⟩
theorem code_ro {X : Prg} {n : Nat} {c : Code} {ρ ρ' : Env} {s s' : St} {e : Xit} (h : exec X n c ρ s = some (e, ρ', s')) : RoKeep s s' :=
  (exec_inv RoKeep RoKeep.refl (fun _ _ _ => RoKeep.trans) (fun _ _ _ _ _ => aop_ro) n).1 _ _ _ _ _ _ h

/-- A text that may only be read. -/
def Ro (s : St) (a : Addr) (n : Nat) (cs : List Value) : Prop := (∃ all, s.get a.block = some (.ro all)) ∧ s.rd a n = some cs
theorem Ro.rd {s : St} {a : Addr} {n : Nat} {cs : List Value} (h : Ro s a n cs) : s.rd a n = some cs := h.2
theorem Ro.keep {s s' : St} {a : Addr} {n : Nat} {cs : List Value} (h : Ro s a n cs) (k : RoKeep s s') : Ro s' a n cs := by
  obtain ⟨⟨all, h1⟩, h2⟩ := h
  have h3 := k.2 _ _ h1
  refine ⟨⟨all, h3⟩, ?_⟩
  unfold St.rd at h2 ⊢
  rw [h1] at h2
  rw [h3]
  exact h2

/-- A slice of what may only be read. -/
inductive RoV (s : St) (k : Nat) : Value → Nat → List Value → Prop
  | nil : RoV s k (.slice none 0 0) 0 []
  | row (a : Addr) (n cap : Nat) (cs : List Value) : Ro s a (n * k) cs → n ≤ cap / 2 → RoV s k (.slice (some a) n cap) n cs
theorem RoV.keep {s s' : St} {k n : Nat} {v : Value} {cs : List Value} (h : RoV s k v n cs) (q : RoKeep s s') : RoV s' k v n cs := by
  cases h with
  | nil => exact .nil
  | row a n cap cs h hc => exact .row a n cap cs (h.keep q) hc
theorem RoV.len {s : St} {k n : Nat} {v : Value} {cs : List Value} (h : RoV s k v n cs) {X : Prg} {t : Nat} {e : Nat} {z : Value} {b c : Nat} (ht : X.ty t = some ⟨.slice e, b, c, z⟩) (s2 : St) : lenv X t v s2 = some (n : Int) := by
  cases h <;> simp [lenv, ht]
theorem RoV.pos {s : St} {k n : Nat} {v : Value} {cs : List Value} (h : RoV s k v n cs) (hn : 0 < n) : ∃ a cap, v = .slice (some a) n cap ∧ Ro s a (n * k) cs := by
  cases h with
  | nil => omega
  | row a n cap cs h hc => exact ⟨a, cap, rfl, h⟩

/-! Slices that grow -/
inductive Tip (s : St) (e k : Nat) : Value → List Value → Nat → Prop
  | nil : Tip s e k (.slice none 0 0) [] 0
  | row (b : Nat) (sp : Option Nat) (cs : List Value) (n : Nat) : s.get b = some (.own ⟨cs, e, sp.getD 0, 0, false⟩) → cs.length = n * k → Tip s e k (.slice (some ⟨b, 0, sp⟩) n (capO n)) cs n
/-- All but one block is as it was. -/
def Rest (s s' : St) (v : Value) : Prop := s.size ≤ s'.size ∧ ∀ b o, s.get b = some o → (∀ a n c, v = .slice (some a) n c → a.block ≠ b) → s'.get b = some o
theorem Tip.push {s : St} {e k n : Nat} {v : Value} {cs : List Value} (h : Tip s e k v cs n) (o : AObj) : Tip (s.push o) e k v cs n := by
  cases h with
  | nil => exact .nil
  | row b sp cs n h1 h2 =>
    refine .row b sp cs n ?_ h2
    have := St.lt_of_get h1
    rw [St.get_push, if_neg (by omega)]; exact h1
theorem Tip.lenv {s : St} {e k n : Nat} {v : Value} {cs : List Value} (h : Tip s e k v cs n) {X : Prg} {t : Nat} {e1 : Nat} {z : Value} {b c : Nat} (ht : X.ty t = some ⟨.slice e1, b, c, z⟩) (s2 : St) : lenv X t v s2 = some (n : Int) := by
  cases h <;> simp [Ab.lenv, ht]
theorem Tip.pos {s : St} {e k n : Nat} {v : Value} {cs : List Value} (h : Tip s e k v cs n) (hn : 0 < n) : ∃ a cap, v = .slice (some a) n cap ∧ s.rd a (n * k) = some cs := by
  cases h with
  | nil => omega
  | row b sp cs n h1 h2 =>
    refine ⟨_, _, rfl, ?_⟩
    unfold St.rd
    simp only [h1, ep]
    rw [if_pos ⟨trivial, by omega⟩]
    rw [List.drop_zero, List.take_of_length_le (by omega)]
theorem Tip.len {s : St} {e k n : Nat} {v : Value} {cs : List Value} (h : Tip s e k v cs n) : cs.length = n * k := by
  cases h with
  | nil => simp
  | row b sp cs n h1 h2 => exact h2
theorem Tip.append {s : St} {e k n m : Nat} {v : Value} {cs vs : List Value} {te : Ty} (h : Tip s e k v cs n) (hk : te.size = k) (hl : vs.length = m * k) (hm : m ≠ 0) (hroom : roomOk (n + m) te.bytes = true) (h1 : vs.all Value.oneCell' = true) :
    ∃ v' s', appendTo te e m vs v s = some (v', s') ∧ Tip s' e k v' (cs ++ vs) (n + m) ∧ Rest s s' v ∧ RoKeep s s' := by
  have aux : ∀ v' s', appendTo te e m vs v s = some (v', s') → Tip s' e k v' (cs ++ vs) (n + m) ∧ Rest s s' v → ∃ v' s', appendTo te e m vs v s = some (v', s') ∧ Tip s' e k v' (cs ++ vs) (n + m) ∧ Rest s s' v ∧ RoKeep s s' :=
    fun v' s' q1 q2 => ⟨v', s', q1, q2.1, q2.2, append_ro q1⟩
  cases h with
  | nil =>
    refine aux (.slice (some ⟨s.size, 0, none⟩) m (capO m)) (s.push (.own ⟨vs, e, 0, 0, false⟩)) ?_ ⟨?_, ?_, ?_⟩
    · simp only [Nat.zero_add] at hroom
      simp [appendTo, hm, hroom]
    · rw [Nat.zero_add, List.nil_append]
      exact .row _ none _ _ (by rw [St.get_push, if_pos rfl]; rfl) hl
    · simp [St.size_push]
    · intro b o hb _
      have := St.lt_of_get hb
      rw [St.get_push, if_neg (by omega)]; exact hb
  | row b sp cs n h2 h3 =>
    refine aux (.slice (some ⟨b, 0, some (sp.getD 0 + 1)⟩) (n + m) (capO (n + m))) (s.set b (.own ⟨cs ++ vs, e, sp.getD 0 + 1, 0, false⟩)) ?_ ⟨?_, ?_, ?_⟩
    · have e1 : ¬ (n + m ≤ capO n / 2) := by simp only [capO]; omega
      have e2 : ¬ (capO n % 2 = 1) := by simp only [capO]; omega
      simp [appendTo, hm, e1, e2, h2, hroom, ep, h3, hk, h1]
    · refine .row b (some (sp.getD 0 + 1)) _ _ (by rw [St.get_set h2, if_pos rfl]; rfl) (by rw [List.length_append, h3, hl, Nat.add_mul])
    · exact Nat.le_refl _
    · intro c o hc hne
      have := hne _ _ _ rfl
      rw [St.get_set h2, if_neg this]; exact hc
theorem Tip.rd {s : St} {e k n : Nat} {a : Addr} {len cap : Nat} {cs : List Value} (h : Tip s e k (.slice (some a) len cap) cs n) : s.rd a (n * k) = some cs ∧ len = n := by
  cases h with
  | row b sp cs n h1 h2 =>
    refine ⟨?_, rfl⟩
    unfold St.rd
    simp only [h1, ep]
    rw [if_pos ⟨trivial, by omega⟩]
    rw [List.drop_zero, List.take_of_length_le (by omega)]
theorem rd_new (s : St) (cs : List Value) (e n : Nat) (h : cs.length = n) : (s.push (.own ⟨cs, e, 0, 0, false⟩)).rd ⟨s.size, 0, none⟩ n = some cs := by
  subst h
  unfold St.rd
  rw [St.get_push, if_pos rfl]
  refine (if_pos ⟨rfl, Nat.le_of_eq (Nat.zero_add _)⟩).trans ?_
  rw [List.drop_zero, List.take_of_length_le (Nat.le_refl _)]
theorem append_tip {X : Prg} {s : St} {t t1 e e1 n m : Nat} {te : Ty} {v : Value} {cs vs : List Value} {a1 : Addr} {c1 : Nat} (hu : X.und t = some (.slice e)) (hte : X.ty e = some te) (hu1 : X.und t1 = some (.slice e1)) (hrd : s.rd a1 (m * te.size) = some vs)
    (htip : Tip s e te.size v cs n) (hm : m ≠ 0) (hroom : roomOk (n + m) te.bytes = true) (h1 : vs.all Value.oneCell' = true) :
    ∃ v' s', appendv X #[t, t1] v (.slice (some a1) m c1) s = some (v', s') ∧ Tip s' e te.size v' (cs ++ vs) (n + m) ∧ Rest s s' v ∧ RoKeep s s' := by
  obtain ⟨v', s', q1, q2⟩ := Tip.append (te := te) htip rfl (rd_len hrd) hm hroom h1
  refine ⟨v', s', ?_, q2⟩
  have e0 : (#[t, t1] : Array TypeId)[0]? = some t := rfl
  have e2 : (#[t, t1] : Array TypeId)[1]? = some t1 := rfl
  simp only [appendv, e0, e2, hu, hte, newv, hu1, lenOfv, firstv, hrd, Option.map_some]
  exact q1
end Go.Proofs.Ytndedkpcfjnecaa.Ab
