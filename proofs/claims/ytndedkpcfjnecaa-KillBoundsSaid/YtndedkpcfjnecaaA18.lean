/- A calculus of total correctness over the evaluator, without fuel. -/
import Derived.Test.YtndedkpcfjnecaaA17
set_option linter.unusedSimpArgs false
set_option linter.unusedVariables false
namespace Go.Proofs.Ytndedkpcfjnecaa.Ab

/-! ### Regions, stripped -/
inductive Gd where
  | always
  | never
  | on (t : Nat) (w : Bool)
structure SO where
  dst : Option Nat
  op : Op
  g : Gd
def strip1 (all : Array Oper) (o : Oper) : SO :=
  ⟨o.dst, o.op, match o.guard with
    | none => .always
    | some (j, w) => match (all[j]?).bind (·.dst) with
      | some d => .on d w
      | none => .never⟩
def isB (v : Value) (w : Bool) : Bool := match v with | .bool b => b == w | _ => false
def wantS (g : Gd) (ρ : Env) : Bool := match g with
  | .always => true
  | .never => false
  | .on t w => isB (ρ.get t) w
theorem wantS_strip (all : Array Oper) (o : Oper) (ρ : Env) : wantedE all o ρ = wantS (strip1 all o).g ρ := by
  unfold wantedE strip1 wantS isB
  cases o.guard with
  | none => rfl
  | some p =>
    obtain ⟨j, w⟩ := p
    simp only
    cases (all[j]?).bind (·.dst) <;> rfl
def stepS (call : Caller) (X : Prg) (op : Op) (ρ : Env) (s : St) : Option (Value × St) :=
  match op with
  | .call { callee := .value f, args, .. } => match evo ρ f with
    | .func (.func k) first captured => call k (first.toList ++ args.toList.map (evo ρ) ++ captured.toList) s
    | _ => none
  | op => aop X (evo ρ) op s
def runS (call : Caller) (X : Prg) : List SO → Env → St → Option (Env × St)
  | [], ρ, s => some (ρ, s)
  | o :: r, ρ, s =>
    if wantS o.g ρ then
      match stepS call X o.op ρ s with
      | some (v, s') => runS call X r (ρ.put o.dst v) s'
      | none => none
    else runS call X r (ρ.put o.dst undef) s
theorem runS_strip (call : Caller) (X : Prg) (all : Array Oper) : ∀ (l : List Oper) (ρ : Env) (s : St), runOps call X all l ρ s = runS call X (l.map (strip1 all)) ρ s
  | [], _, _ => rfl
  | o :: r, ρ, s => by
    simp only [runOps, List.map_cons, runS, wantS_strip]
    have e : stepOp call X o ρ s = stepS call X (strip1 all o).op ρ s := rfl
    rw [e]
    simp only [runS_strip call X all r]
    rfl

/-! ### More fuel, the same answer -/
def Cle (c d : Caller) : Prop := ∀ f args s r, c f args s = some r → d f args s = some r
theorem stepOp_mono {c d : Caller} (h : Cle c d) {X : Prg} {o : Oper} {ρ : Env} {s : St} {r : Value × St} (hr : stepOp c X o ρ s = some r) : stepOp d X o ρ s = some r := by
  unfold stepOp at hr ⊢
  split at hr
  · split at hr
    · exact h _ _ _ _ hr
    · cases hr
  · exact hr
theorem stepS_mono {c d : Caller} (h : Cle c d) {X : Prg} {o : Op} {ρ : Env} {s : St} {r : Value × St} (hr : stepS c X o ρ s = some r) : stepS d X o ρ s = some r := by
  unfold stepS at hr ⊢
  split at hr
  · split at hr
    · exact h _ _ _ _ hr
    · cases hr
  · exact hr
theorem runS_mono {c d : Caller} (h : Cle c d) {X : Prg} : ∀ (l : List SO) (ρ : Env) (s : St) (r : Env × St), runS c X l ρ s = some r → runS d X l ρ s = some r
  | [], _, _, _, hr => hr
  | o :: l, ρ, s, r, hr => by
    simp only [runS] at hr ⊢
    split at hr
    · rename_i hw
      rw [if_pos hw]
      split at hr
      · rename_i v s' h1
        rw [stepS_mono h h1]
        exact runS_mono h l _ _ _ hr
      · cases hr
    · rename_i hw
      rw [if_neg hw]
      exact runS_mono h l _ _ _ hr
theorem trace_mono {c d : Caller} (h : Cle c d) {X : Prg} {all : Array Oper} : ∀ (l : List Oper) (ρ : Env) (s : St) (r : Env × St), runOps c X all l ρ s = some r → runOps d X all l ρ s = some r ∧ trace d X all l ρ s = trace c X all l ρ s
  | [], _, _, _, hr => ⟨hr, rfl⟩
  | o :: l, ρ, s, r, hr => by
    simp only [runOps, trace] at hr ⊢
    split at hr
    · rename_i hw
      simp only [if_pos hw]
      split at hr
      · rename_i v s' h1
        rw [stepOp_mono h h1]
        obtain ⟨h2, h3⟩ := trace_mono h l _ _ _ hr
        simp only [h2, h1, h3, and_self]
      · cases hr
    · rename_i hw
      simp only [if_neg hw]
      obtain ⟨h2, h3⟩ := trace_mono h l _ _ _ hr
      exact ⟨h2, by rw [h3]⟩
theorem region_mono {c d : Caller} (h : Cle c d) {X : Prg} {ops : List Oper} {draw : Bool} {ρ : Env} {s : St} {r : Env × St} (hr : region c X ops draw ρ s = some r) : region d X ops draw ρ s = some r := by
  unfold region at hr ⊢
  split at hr
  · cases hr
  · rename_i T s' h1
    obtain ⟨h2, h3⟩ := trace_mono h _ _ _ _ h1
    rw [h2, h3]
    exact hr
def Ele (a b : Code → Env → St → Option (Xit × Env × St)) : Prop := ∀ c ρ s r, a c ρ s = some r → b c ρ s = some r
theorem enter_mono {a b : Code → Env → St → Option (Xit × Env × St)} (h : Ele a b) (X : Prg) : Cle (enter a X) (enter b X) := by
  intro f args s r hr
  unfold enter at hr ⊢
  cases hkn : X.known f args with
  | some v => simp only [hkn] at hr ⊢; exact hr
  | none =>
  cases hfn : X.fn f with
  | none => simp only [hkn, hfn] at hr; cases hr
  | some fn =>
    cases hc : fn.body with
    | none => simp only [hkn, hfn, hc] at hr; cases hr
    | some c =>
        simp only [hkn, hfn, hc] at hr ⊢
        split at hr
        · rename_i hl
          rw [if_pos hl]
          split at hr
          · rename_i h1; rw [h _ _ _ _ h1]; exact hr
          · rename_i h1; rw [h _ _ _ _ h1]; exact hr
          · cases hr
        · cases hr
theorem exec_mono (X : Prg) : ∀ n, Ele (exec X n) (exec X (n + 1)) ∧ ∀ whole c ρ s r, exec.jump X n whole c ρ s = some r → exec.jump X (n + 1) whole c ρ s = some r
  | 0 => ⟨fun c ρ s r h => by simp [exec] at h, fun whole c ρ s r h => by simp [exec.jump] at h⟩
  | n + 1 => by
    obtain ⟨ih, ihj⟩ := exec_mono X n
    refine ⟨fun c ρ s r h => ?_, fun whole c ρ s r h => ?_⟩
    · cases c with
      | skip => exact h
      | label l => exact h
      | exit id => exact h
      | goto l => exact h
      | ret => exact h
      | region id ops draw =>
        rw [exec] at h ⊢
        simp only [Option.map_eq_some_iff] at h ⊢
        obtain ⟨p, h1, h2⟩ := h
        exact ⟨p, region_mono (enter_mono ih X) h1, h2⟩
      | seq a b =>
        rw [exec] at h ⊢
        split at h
        · rename_i h1
          rw [ih _ _ _ _ h1]
          exact ih _ _ _ _ h
        · rename_i hne
          rw [ih _ _ _ _ h]
          obtain ⟨e, ρ1, s1⟩ := r
          cases e with
          | normal => exact absurd h (by intro h'; exact hne _ _ h')
          | _ => rfl
      | cond c a b =>
        rw [exec] at h ⊢
        split at h
        · exact ih _ _ _ _ h
        · cases h
      | block id c =>
        rw [exec] at h ⊢
        split at h
        · rename_i h1
          rw [ih _ _ _ _ h1]
          exact h
        · rename_i hne
          rw [ih _ _ _ _ h]
          obtain ⟨e, ρ1, s1⟩ := r
          cases e with
          | exit i => exact absurd h (by intro h'; exact hne _ _ _ h')
          | _ => rfl
      | loop c =>
        rw [exec] at h ⊢
        split at h
        · rename_i h1
          rw [ih _ _ _ _ h1]
          exact ih _ _ _ _ h
        · rename_i hne
          rw [ih _ _ _ _ h]
          obtain ⟨e, ρ1, s1⟩ := r
          cases e with
          | normal => exact absurd h (by intro h'; exact hne _ _ h')
          | _ => rfl
      | scope c =>
        rw [exec] at h ⊢
        exact ihj _ _ _ _ _ h
      | rangeFunc f ps a b => simp [exec] at h
      | refuse why => simp [exec] at h
    · rw [exec.jump] at h ⊢
      split at h
      · rename_i h1
        rw [ih _ _ _ _ h1]
        split at h
        · rename_i r2 hl
          simp only [hl]
          exact ihj _ _ _ _ _ h
        · rename_i hl
          simp only [hl]
          exact h
      · rename_i hne
        rw [ih _ _ _ _ h]
        obtain ⟨e, ρ1, s1⟩ := r
        cases e with
        | goto l => exact absurd h (by intro h'; exact hne _ _ _ h')
        | _ => rfl
theorem exec_le (X : Prg) {n m : Nat} (h : n ≤ m) : Ele (exec X n) (exec X m) := by
  induction h with
  | refl => exact fun _ _ _ _ h => h
  | step _ ih => exact fun c ρ s r hr => (exec_mono X _).1 _ _ _ _ (ih _ _ _ _ hr)
theorem jump_le (X : Prg) {n m : Nat} (h : n ≤ m) {whole c : Code} {ρ : Env} {s : St} {r : Xit × Env × St} (hr : exec.jump X n whole c ρ s = some r) : exec.jump X m whole c ρ s = some r := by
  induction h with
  | refl => exact hr
  | step _ ih => exact (exec_mono X _).2 _ _ _ _ _ ih
theorem call_le (X : Prg) {n m : Nat} (h : n ≤ m) : Cle (enter (exec X n) X) (enter (exec X m) X) := enter_mono (exec_le X h) X

/-! ### The calculus -/
def W (X : Prg) (c : Code) (ρ : Env) (s : St) (Q : Xit → Env → St → Prop) : Prop := ∃ n e ρ' s', exec X n c ρ s = some (e, ρ', s') ∧ Q e ρ' s'
def WJ (X : Prg) (whole c : Code) (ρ : Env) (s : St) (Q : Xit → Env → St → Prop) : Prop := ∃ n e ρ' s', exec.jump X n whole c ρ s = some (e, ρ', s') ∧ Q e ρ' s'
def WC (X : Prg) (f : Nat) (args : List Value) (s : St) (Q : Value → St → Prop) : Prop := ∃ n v s', acall X n f args s = some (v, s') ∧ Q v s'
def WS (X : Prg) (l : List SO) (ρ : Env) (s : St) (K : Env → St → Prop) : Prop := ∃ n ρ' s', runS (enter (exec X n) X) X l ρ s = some (ρ', s') ∧ K ρ' s'
def bindO {α : Type} (o : Option α) (K : α → Prop) : Prop := ∃ a, o = some a ∧ K a

theorem bindO_some {α : Type} (a : α) (K : α → Prop) : bindO (some a) K = K a := by simp [bindO]
theorem bindO_none {α : Type} (K : α → Prop) : bindO none K = False := by simp [bindO]

section
variable {X : Prg} {ρ : Env} {s : St}
theorem W_mono {c : Code} {Q R : Xit → Env → St → Prop} (h : W X c ρ s Q) (hQ : ∀ e ρ' s', Q e ρ' s' → R e ρ' s') : W X c ρ s R :=
  let ⟨n, e, ρ', s', h1, h2⟩ := h
  ⟨n, e, ρ', s', h1, hQ _ _ _ h2⟩
theorem WC_mono {f : Nat} {args : List Value} {Q R : Value → St → Prop} (h : WC X f args s Q) (hQ : ∀ v s', Q v s' → R v s') : WC X f args s R :=
  let ⟨n, v, s', h1, h2⟩ := h
  ⟨n, v, s', h1, hQ _ _ h2⟩
theorem W_skip {Q : Xit → Env → St → Prop} (h : Q .normal ρ s) : W X .skip ρ s Q := ⟨1, _, _, _, rfl, h⟩
theorem W_label {l : Nat} {Q : Xit → Env → St → Prop} (h : Q .normal ρ s) : W X (.label l) ρ s Q := ⟨1, _, _, _, rfl, h⟩
theorem W_exit {i : Nat} {Q : Xit → Env → St → Prop} (h : Q (.exit i) ρ s) : W X (.exit i) ρ s Q := ⟨1, _, _, _, rfl, h⟩
theorem W_goto {l : Nat} {Q : Xit → Env → St → Prop} (h : Q (.goto l) ρ s) : W X (.goto l) ρ s Q := ⟨1, _, _, _, rfl, h⟩
theorem W_ret {Q : Xit → Env → St → Prop} (h : Q .ret ρ s) : W X .ret ρ s Q := ⟨1, _, _, _, rfl, h⟩
def seqQ (X : Prg) (b : Code) (Q : Xit → Env → St → Prop) (e : Xit) (ρ : Env) (s : St) : Prop := match e with | .normal => W X b ρ s Q | e => Q e ρ s
def loopQ (X : Prg) (c : Code) (Q : Xit → Env → St → Prop) (e : Xit) (ρ : Env) (s : St) : Prop := match e with | .normal => W X (.loop c) ρ s Q | e => Q e ρ s
def blockQ (id : Nat) (Q : Xit → Env → St → Prop) (e : Xit) (ρ : Env) (s : St) : Prop := match e with | .exit i => if i = id then Q .normal ρ s else Q (.exit i) ρ s | e => Q e ρ s
def jumpQ (X : Prg) (whole : Code) (Q : Xit → Env → St → Prop) (e : Xit) (ρ : Env) (s : St) : Prop := match e with | .goto l => (match findLabel whole l with | some r => WJ X whole r ρ s Q | none => Q (.goto l) ρ s) | e => Q e ρ s
theorem W_seq {a b : Code} {Q : Xit → Env → St → Prop} (h : W X a ρ s (seqQ X b Q)) : W X (.seq a b) ρ s Q := by
  obtain ⟨n, e, ρ1, s1, h1, h2⟩ := h
  cases e with
  | normal =>
    obtain ⟨m, e, ρ2, s2, h3, h4⟩ := h2
    refine ⟨max n m + 1, e, ρ2, s2, ?_, h4⟩
    rw [exec, exec_le X (Nat.le_max_left n m) _ _ _ _ h1]
    exact exec_le X (Nat.le_max_right n m) _ _ _ _ h3
  | exit i => exact ⟨n + 1, _, _, _, by rw [exec, h1], h2⟩
  | goto l => exact ⟨n + 1, _, _, _, by rw [exec, h1], h2⟩
  | ret => exact ⟨n + 1, _, _, _, by rw [exec, h1], h2⟩
theorem W_loop {c : Code} {Q : Xit → Env → St → Prop} (h : W X c ρ s (loopQ X c Q)) : W X (.loop c) ρ s Q := by
  obtain ⟨n, e, ρ1, s1, h1, h2⟩ := h
  cases e with
  | normal =>
    obtain ⟨m, e, ρ2, s2, h3, h4⟩ := h2
    refine ⟨max n m + 1, e, ρ2, s2, ?_, h4⟩
    rw [exec, exec_le X (Nat.le_max_left n m) _ _ _ _ h1]
    exact exec_le X (Nat.le_max_right n m) _ _ _ _ h3
  | exit i => exact ⟨n + 1, _, _, _, by rw [exec, h1], h2⟩
  | goto l => exact ⟨n + 1, _, _, _, by rw [exec, h1], h2⟩
  | ret => exact ⟨n + 1, _, _, _, by rw [exec, h1], h2⟩
theorem W_block {id : Nat} {c : Code} {Q : Xit → Env → St → Prop} (h : W X c ρ s (blockQ id Q)) : W X (.block id c) ρ s Q := by
  obtain ⟨n, e, ρ1, s1, h1, h2⟩ := h
  cases e with
  | exit i =>
    simp only [blockQ] at h2
    split at h2
    · rename_i hi
      exact ⟨n + 1, .normal, ρ1, s1, by rw [exec, h1]; simp only [if_pos hi], h2⟩
    · rename_i hi
      exact ⟨n + 1, .exit i, ρ1, s1, by rw [exec, h1]; simp only [if_neg hi], h2⟩
  | normal => exact ⟨n + 1, _, _, _, by rw [exec, h1], h2⟩
  | goto l => exact ⟨n + 1, _, _, _, by rw [exec, h1], h2⟩
  | ret => exact ⟨n + 1, _, _, _, by rw [exec, h1], h2⟩
theorem W_cond {c : Operand} {a b : Code} {Q : Xit → Env → St → Prop} {t : Bool} (hc : evo ρ c = .bool t) (h : W X (if t then a else b) ρ s Q) : W X (.cond c a b) ρ s Q := by
  obtain ⟨n, e, ρ1, s1, h1, h2⟩ := h
  exact ⟨n + 1, _, _, _, by rw [exec, hc]; exact h1, h2⟩
theorem W_cond_true {c : Operand} {a b : Code} {Q : Xit → Env → St → Prop} (hc : evo ρ c = .bool true) (h : W X a ρ s Q) : W X (.cond c a b) ρ s Q := W_cond hc h
theorem W_cond_false {c : Operand} {a b : Code} {Q : Xit → Env → St → Prop} (hc : evo ρ c = .bool false) (h : W X b ρ s Q) : W X (.cond c a b) ρ s Q := W_cond hc h
theorem W_scope {c : Code} {Q : Xit → Env → St → Prop} (h : WJ X c c ρ s Q) : W X (.scope c) ρ s Q := by
  obtain ⟨n, e, ρ1, s1, h1, h2⟩ := h
  exact ⟨n + 1, _, _, _, by rw [exec]; exact h1, h2⟩
theorem WJ_of {whole c : Code} {Q : Xit → Env → St → Prop} (h : W X c ρ s (jumpQ X whole Q)) : WJ X whole c ρ s Q := by
  obtain ⟨n, e, ρ1, s1, h1, h2⟩ := h
  cases e with
  | goto l =>
    simp only [jumpQ] at h2
    split at h2
    · rename_i r hr
      obtain ⟨m, e, ρ2, s2, h3, h4⟩ := h2
      refine ⟨max n m + 1, e, ρ2, s2, ?_, h4⟩
      rw [exec.jump, exec_le X (Nat.le_max_left n m) _ _ _ _ h1]
      simp only [hr]
      exact jump_le X (Nat.le_max_right n m) h3
    · rename_i hr
      exact ⟨n + 1, _, _, _, by rw [exec.jump, h1]; simp only [hr], h2⟩
  | normal => exact ⟨n + 1, _, _, _, by rw [exec.jump, h1], h2⟩
  | exit i => exact ⟨n + 1, _, _, _, by rw [exec.jump, h1], h2⟩
  | ret => exact ⟨n + 1, _, _, _, by rw [exec.jump, h1], h2⟩

/-! Regions -/
/-- Nothing that reads stands beside what writes. -/
def readsStat (X : Prg) (ops : List Oper) : Bool :=
  (effsOf ops).isEmpty || (iota ops.length).all fun i => match ops[i]? with
    | some o => isEff o.op || isNew X o.op || (effsOf ops).all fun j => ((befs ops).getD i 0).testBit j || ((befs ops).getD j 0).testBit i
    | none => false
theorem iota_mem : ∀ {n i : Nat}, i ∈ iota n → i < n
  | 0, _, h => by cases h
  | n + 1, i, h => by
    simp only [iota, List.mem_append, List.mem_singleton] at h
    rcases h with h | h
    · have := iota_mem h; omega
    · omega
theorem trace_len {call : Caller} {all : Array Oper} : ∀ (l : List Oper) (ρ : Env) (s : St) (r : Env × St), runOps call X all l ρ s = some r → (trace call X all l ρ s).length = l.length + 1
  | [], _, _, _, _ => rfl
  | o :: l, ρ, s, r, h => by
    simp only [runOps, trace] at h ⊢
    split at h
    · rename_i hw
      rw [if_pos hw]
      split at h
      · rename_i v s' h1
        simp only [h1, List.length_cons, trace_len l _ _ _ h]
      · cases h
    · rename_i hw
      rw [if_neg hw]
      simp only [List.length_cons, trace_len l _ _ _ h]
theorem readsOk_stat {call : Caller} {ops : List Oper} {T : Env} {r : Env × St} (h : readsStat X ops = true) (hr : runOps call X ops.toArray ops ρ s = some r) : readsOk X ops T (trace call X ops.toArray ops ρ s) = true := by
  unfold readsStat at h
  unfold readsOk
  rw [Bool.or_eq_true] at h ⊢
  rcases h with h | h
  · exact .inl h
  · refine .inr (List.all_eq_true.2 fun i hi => ?_)
    have hl := trace_len _ _ _ _ hr
    have hn := iota_mem hi
    obtain ⟨at_, hat⟩ : ∃ a, (trace call X ops.toArray ops ρ s)[i]? = some a := ⟨_, List.getElem?_eq_getElem (by omega)⟩
    have h1 := List.all_eq_true.1 h i hi
    have ho : ops[i]? = some ops[i] := List.getElem?_eq_getElem hn
    rw [hat, ho]
    rw [ho] at h1
    simp only [Bool.or_eq_true] at h1 ⊢
    rcases h1 with h1 | h1
    · exact .inl h1
    · refine .inr (List.all_eq_true.2 fun j hj => ?_)
      have h2 := List.all_eq_true.1 h1 j hj
      rw [Bool.or_eq_true, Bool.or_eq_true]
      exact .inl (.inl h2)
def regOk (X : Prg) (ops : List Oper) (draw : Bool) : Bool := !draw || readsStat X ops
theorem W_region {id : Nat} {ops : Array Oper} {draw : Bool} {Q : Xit → Env → St → Prop} (hok : regOk X ops.toList draw = true) (h : ∀ K, K = Q .normal → WS X (ops.toList.map (strip1 ops)) ρ s K) : W X (.region id ops draw) ρ s Q := by
  have h := h _ rfl
  obtain ⟨n, ρ1, s1, h1, h2⟩ := h
  refine ⟨n + 1, .normal, ρ1, s1, ?_, h2⟩
  have hrun : runOps (enter (exec X n) X) X ops.toList.toArray ops.toList ρ s = some (ρ1, s1) := by rw [runS_strip]; simpa using h1
  rw [exec, Option.map_eq_some_iff]
  refine ⟨(ρ1, s1), ?_, rfl⟩
  unfold region
  rw [hrun]
  simp only
  cases draw with
  | false => rfl
  | true =>
    simp only [regOk, Bool.not_true, Bool.false_or] at hok
    rw [if_pos rfl, if_pos]
    exact readsOk_stat hok hrun
theorem WS_of_eq {l : List SO} {K : Env → St → Prop} (h : ∀ K', K' = K → WS X l ρ s K') : WS X l ρ s K := h K rfl
/-! Up to the next call -/
inductive PR where
  | done (ρ : Env) (s : St)
  | call (k : Nat) (args : List Value) (d : Option Nat) (r : List SO) (ρ : Env) (s : St)
  | bad
def boolOf (v : Value) : Option Bool := match v with | .bool t => some t | _ => none
def tupOf (v : Value) (i : Nat) : Option Value := match v with | .tuple vs => vs[i]? | _ => none
def funOf (v : Value) : Option (Nat × Array Value × Array Value) := match v with | .func (.func k) a b => some (k, a, b) | _ => none
def isCall (op : Op) : Option (Operand × Array Operand) := match op with
  | .call { callee := .value f, args, .. } => some (f, args)
  | _ => none
def runP (X : Prg) : List SO → Env → St → PR
  | [], ρ, s => .done ρ s
  | o :: r, ρ, s =>
    if wantS o.g ρ then
      match isCall o.op with
      | some (f, args) => match funOf (evo ρ f) with
        | some (k, a, b) => .call k (a.toList ++ args.toList.map (evo ρ) ++ b.toList) o.dst r ρ s
        | none => .bad
      | none => match aop X (evo ρ) o.op s with
        | some (v, s') => runP X r (ρ.put o.dst v) s'
        | none => .bad
    else runP X r (ρ.put o.dst undef) s
def afterP (X : Prg) (p : PR) (K : Env → St → Prop) : Prop := match p with
  | .done ρ s => K ρ s
  | .call k args d r ρ s => WC X k args s fun v s' => WS X r (ρ.put d v) s' K
  | .bad => False
theorem stepS_call {call : Caller} {op : Op} {f : Operand} {args : Array Operand} (h : isCall op = some (f, args)) : stepS call X op ρ s = match funOf (evo ρ f) with | some (k, a, b) => call k (a.toList ++ args.toList.map (evo ρ) ++ b.toList) s | none => none := by
  unfold isCall at h
  split at h
  · cases h
    simp only [stepS]
    generalize evo ρ f = v
    cases v with
    | func fn a b => cases fn <;> rfl
    | _ => rfl
  · cases h
theorem stepS_aop {call : Caller} {op : Op} (h : isCall op = none) : stepS call X op ρ s = aop X (evo ρ) op s := by
  unfold isCall at h
  split at h
  · cases h
  · rename_i hne
    unfold stepS
    split
    · rename_i f args ts
      exact (hne f args ts rfl).elim
    · rfl
theorem WS_run {K : Env → St → Prop} : ∀ (l : List SO) (ρ : Env) (s : St), afterP X (runP X l ρ s) K → WS X l ρ s K
  | [], ρ, s, h => ⟨0, ρ, s, rfl, h⟩
  | o :: r, ρ, s, h => by
    unfold runP at h
    cases hw : wantS o.g ρ with
    | false =>
      rw [hw] at h
      obtain ⟨n, ρ', s', h1, h2⟩ := WS_run r _ _ h
      refine ⟨n, ρ', s', ?_, h2⟩
      rw [runS, hw]; exact h1
    | true =>
      rw [hw, if_pos rfl] at h
      cases hc : isCall o.op with
      | some fa =>
        obtain ⟨f, args⟩ := fa
        rw [hc] at h
        simp only at h
        cases hf : funOf (evo ρ f) with
        | none => rw [hf] at h; exact h.elim
        | some kab =>
          obtain ⟨k, a, b⟩ := kab
          rw [hf] at h
          obtain ⟨n, v, s1, h1, m, ρ2, s2, h2, h3⟩ := h
          refine ⟨max n m, ρ2, s2, ?_, h3⟩
          have e : stepS (enter (exec X (max n m)) X) X o.op ρ s = some (v, s1) := by
            rw [stepS_call hc, hf]
            exact call_le X (Nat.le_max_left n m) _ _ _ _ h1
          rw [runS, hw, if_pos rfl, e]
          exact runS_mono (call_le X (Nat.le_max_right n m)) _ _ _ _ h2
      | none =>
        rw [hc] at h
        simp only at h
        cases ha : aop X (evo ρ) o.op s with
        | none => rw [ha] at h; exact h.elim
        | some p =>
          obtain ⟨v, s1⟩ := p
          rw [ha] at h
          obtain ⟨n, ρ', s', h1, h2⟩ := WS_run r _ _ h
          refine ⟨n, ρ', s', ?_, h2⟩
          rw [runS, hw, if_pos rfl, stepS_aop hc, ha]
          exact h1
def contP (X : Prg) (p : Option (Value × St)) (d : Option Nat) (r : List SO) (ρ : Env) : PR := match p with
  | some (v, s') => runP X r (ρ.put d v) s'
  | none => .bad
def callP (p : Option (Nat × Array Value × Array Value)) (args : List Value) (d : Option Nat) (r : List SO) (ρ : Env) (s : St) : PR := match p with
  | some (k, a, b) => .call k (a.toList ++ args ++ b.toList) d r ρ s
  | none => .bad
def stepP (X : Prg) (d : Option Nat) (op : Op) (r : List SO) (ρ : Env) (s : St) : PR := match isCall op with
  | some (f, args) => callP (funOf (evo ρ f)) (args.toList.map (evo ρ)) d r ρ s
  | none => contP X (aop X (evo ρ) op s) d r ρ
def guardP (X : Prg) (b : Bool) (d : Option Nat) (op : Op) (r : List SO) (ρ : Env) (s : St) : PR := match b with
  | true => stepP X d op r ρ s
  | false => runP X r (ρ.put d undef) s
theorem runP_nil : runP X [] ρ s = .done ρ s := rfl
theorem runP_always {d : Option Nat} {op : Op} {r : List SO} : runP X (⟨d, op, .always⟩ :: r) ρ s = stepP X d op r ρ s := rfl
theorem runP_never {d : Option Nat} {op : Op} {r : List SO} : runP X (⟨d, op, .never⟩ :: r) ρ s = runP X r (ρ.put d undef) s := rfl
theorem runP_on {d : Option Nat} {op : Op} {r : List SO} {t : Nat} {w : Bool} : runP X (⟨d, op, .on t w⟩ :: r) ρ s = guardP X (isB (ρ.get t) w) d op r ρ s := by
  cases h : isB (ρ.get t) w with
  | true => simp only [runP, wantS, h, if_true]; rfl
  | false => simp only [runP, wantS, h, Bool.false_eq_true, if_false]; rfl
theorem guardP_true {d : Option Nat} {op : Op} {r : List SO} : guardP X true d op r ρ s = stepP X d op r ρ s := rfl
theorem guardP_false {d : Option Nat} {op : Op} {r : List SO} : guardP X false d op r ρ s = runP X r (ρ.put d undef) s := rfl
theorem contP_some {v : Value} {s' : St} {d : Option Nat} {r : List SO} : contP X (some (v, s')) d r ρ = runP X r (ρ.put d v) s' := rfl
theorem callP_some {k : Nat} {a b : Array Value} {args : List Value} {d : Option Nat} {r : List SO} : callP (some (k, a, b)) args d r ρ s = .call k (a.toList ++ args ++ b.toList) d r ρ s := rfl
theorem afterP_done {K : Env → St → Prop} : afterP X (.done ρ s) K = K ρ s := rfl
theorem afterP_call {K : Env → St → Prop} {k : Nat} {args : List Value} {d : Option Nat} {r : List SO} : afterP X (.call k args d r ρ s) K = WC X k args s fun v s' => WS X r (ρ.put d v) s' K := rfl
section
variable {d : Option Nat} {r : List SO}
theorem P_move {x : Operand} : stepP X d (.move x) r ρ s = runP X r (ρ.put d (evo ρ x)) s := rfl
theorem P_assign {x : Operand} : stepP X d (.assign x) r ρ s = runP X r (ρ.put d (evo ρ x)) s := rfl
def pickP (c : Option Bool) (a b : Value) : Option Value := match c with | some true => some a | some false => some b | none => none
theorem pickP_true (a b : Value) : pickP (some true) a b = some a := rfl
theorem pickP_false (a b : Value) : pickP (some false) a b = some b := rfl
def retP (X : Prg) (v : Option Value) (d : Option Nat) (r : List SO) (ρ : Env) (s : St) : PR := match v with | some v => runP X r (ρ.put d v) s | none => .bad
theorem retP_some {v : Value} : retP X (some v) d r ρ s = runP X r (ρ.put d v) s := rfl
theorem contP_map {o : Option Value} : contP X (o.map fun v => (v, s)) d r ρ = retP X o d r ρ s := by cases o <;> rfl
theorem P_pick {c a b : Operand} : stepP X d (.pick c a b) r ρ s = retP X (pickP (boolOf (evo ρ c)) (evo ρ a) (evo ρ b)) d r ρ s := by
  show contP X (aop X (evo ρ) (.pick c a b) s) d r ρ = _
  simp only [aop]
  generalize evo ρ c = v
  cases v with
  | bool t => cases t <;> rfl
  | _ => rfl
theorem P_bin {op : BinOp} {t : TypeId} {x y : Operand} {p : TypeId} : stepP X d (.binOp op t x y p) r ρ s = retP X (binOpv X op t (evo ρ x) (evo ρ y)) d r ρ s := contP_map
theorem P_un {op : UnOp} {t : TypeId} {x : Operand} : stepP X d (.unOp op t x) r ρ s = retP X (unOpv op (evo ρ x)) d r ρ s := contP_map
theorem P_load {t : TypeId} {a : Operand} : stepP X d (.load t a) r ρ s = retP X (loadv X t (evo ρ a) s) d r ρ s := contP_map
theorem P_nilCheck {x : Operand} : stepP X d (.nilCheck x) r ρ s = retP X (nilCheckv (evo ρ x)) d r ρ s := contP_map
theorem P_fieldAddr {t : TypeId} {x : Operand} {f : Nat} : stepP X d (.fieldAddr t x f) r ρ s = retP X (fieldAddrv X t (evo ρ x) f) d r ρ s := contP_map
theorem P_field {t : TypeId} {x : Operand} {f : Nat} : stepP X d (.field t x f) r ρ s = retP X (fieldv X t (evo ρ x) f) d r ρ s := contP_map
theorem P_indexAddr {t : TypeId} {x i : Operand} : stepP X d (.indexAddr t x i) r ρ s = retP X (indexAddrv X t (evo ρ x) (evo ρ i)) d r ρ s := contP_map
theorem P_index {t : TypeId} {x i : Operand} : stepP X d (.index t x i) r ρ s = retP X (indexv X t (evo ρ x) (evo ρ i)) d r ρ s := contP_map
theorem P_slice {t : TypeId} {x : Operand} {lo hi mx : Option Operand} : stepP X d (.slice t x lo hi mx) r ρ s = retP X (sliceOp X t (evo ρ x) (lo.map (evo ρ)) (hi.map (evo ρ)) (mx.map (evo ρ))) d r ρ s := contP_map
theorem P_build {t : TypeId} {ps : Array (Nat × Operand)} : stepP X d (.build t ps) r ρ s = retP X (buildv X t (evParts (evo ρ) ps)) d r ρ s := contP_map
theorem P_lookup {t : TypeId} {m k : Operand} {ok : Bool} : stepP X d (.lookup t m k ok) r ρ s = retP X (lookupv X t (evo ρ m) (evo ρ k) ok s) d r ρ s := contP_map
theorem P_extract {t : Operand} {i : Nat} : stepP X d (.extract t i) r ρ s = retP X (tupOf (evo ρ t) i) d r ρ s := by
  show contP X (aop X (evo ρ) (.extract t i) s) d r ρ = _
  simp only [aop]
  generalize evo ρ t = v
  cases v with
  | tuple vs => exact contP_map
  | _ => rfl
def stP (X : Prg) (o : Option St) (d : Option Nat) (r : List SO) (ρ : Env) : PR := match o with | some s' => runP X r (ρ.put d undef) s' | none => .bad
theorem stP_some : stP X (some s) d r ρ = runP X r (ρ.put d undef) s := rfl
theorem contP_st {o : Option St} : contP X (o.map fun s' => (undef, s')) d r ρ = stP X o d r ρ := by cases o <;> rfl
theorem P_store {t : TypeId} {a v : Operand} : stepP X d (.store t a v) r ρ s = stP X (storev X t (evo ρ a) (evo ρ v) s) d r ρ := contP_st
theorem P_mapUpdate {t : TypeId} {m k v : Operand} : stepP X d (.mapUpdate t m k v) r ρ s = stP X (mapUpdatev X t (evo ρ m) (evo ρ k) (evo ρ v) s) d r ρ := contP_st
theorem P_convert {a b : TypeId} {x : Operand} : stepP X d (.convert a b x) r ρ s = contP X (convertv X a b (evo ρ x) s) d r ρ := rfl
theorem P_builtin {b : Builtin} {args : Array Operand} {ts : Array TypeId} : stepP X d (.call ⟨.builtin b, args, ts⟩) r ρ s = contP X (builtinv X b ts (args.toList.map (evo ρ)) s) d r ρ := rfl
theorem P_call {f : Operand} {args : Array Operand} {ts : Array TypeId} : stepP X d (.call ⟨.value f, args, ts⟩) r ρ s = callP (funOf (evo ρ f)) (args.toList.map (evo ρ)) d r ρ s := rfl
theorem P_makeFunc {fn : Fn} {first captured : Array Operand} : stepP X d (.makeFunc fn first captured) r ρ s = runP X r (ρ.put d (.func fn (first.map (evo ρ)) (captured.map (evo ρ)))) s := rfl
def newP (X : Prg) (o : Option Ty) (t : TypeId) (z : Option Value) (d : Option Nat) (r : List SO) (ρ : Env) (s : St) : PR := match o with
  | some ty => runP X r (ρ.put d (ptr s.size 0)) (s.push (.own ⟨(z.getD ty.zero).cells.toList, t, 0, 0, false⟩))
  | none => .bad
theorem newP_some {ty : Ty} {t : TypeId} {z : Option Value} : newP X (some ty) t z d r ρ s = runP X r (ρ.put d (ptr s.size 0)) (s.push (.own ⟨(z.getD ty.zero).cells.toList, t, 0, 0, false⟩)) := rfl
theorem P_alloc {t : TypeId} : stepP X d (.alloc t) r ρ s = newP X (X.ty t) t none d r ρ s := by
  show contP X (aop X (evo ρ) (.alloc t) s) d r ρ = _
  simp only [aop]
  cases X.ty t <;> rfl
theorem P_box {t : TypeId} {v : Operand} : stepP X d (.box t v) r ρ s = newP X (X.ty t) t (some (evo ρ v)) d r ρ s := by
  show contP X (aop X (evo ρ) (.box t v) s) d r ρ = _
  simp only [aop]
  cases X.ty t <;> rfl
def bslicev (X : Prg) (t n : Nat) (parts : List (Nat × Value)) (s : St) : Option (Value × St) := match X.und t with
  | some (.slice e) => match X.ty e with
    | some te => if n * te.size ≤ 65536 then
        match Instr.fill (fun i => some (i * te.size, te.size)) (reps te.zero.cells.toList n).toArray parts with
        | some cs => some (.slice (some ⟨s.size, 0, none⟩) n (capX n), s.push (.own ⟨cs.toList, e, 0, 0, false⟩))
        | none => none
      else none
    | none => none
  | _ => none
theorem P_buildSlice {t n : Nat} {ps : Array (Nat × Operand)} : stepP X d (.buildSlice t n ps) r ρ s = contP X (bslicev X t n (evParts (evo ρ) ps) s) d r ρ := rfl
theorem P_gen {op : Op} (h : isCall op = none) : stepP X d op r ρ s = contP X (aop X (evo ρ) op s) d r ρ := by unfold stepP; rw [h]
end

/-! Code by its place -/
noncomputable def bodyOf (f : Func) : Code := f.body.getD .skip
def codeAt (c : Code) : List Nat → Code
  | [] => c
  | i :: r => match c with
    | .seq a b => if i = 0 then codeAt a r else codeAt b r
    | .cond _ a b => if i = 0 then codeAt a r else codeAt b r
    | .block _ a | .loop a | .scope a => codeAt a r
    | c => c

/-! Calls -/
def retQ (X : Prg) (rs : List ResultVar) (Q : Value → St → Prop) (e : Xit) (ρ : Env) (s : St) : Prop := match e with
  | .normal | .ret => bindO (resvs X ρ s rs) fun vs => Q (tupv vs) s
  | _ => False
theorem WC_enter {f : Nat} {args : List Value} {Q : Value → St → Prop} {fn : Func} {c : Code} (hk : X.known f args = none) (hf : X.fn f = some fn) (hc : fn.body = some c) (hl : args.length ≤ fn.ntmps) (h : W X c (Env.of args) s (retQ X fn.results.toList Q)) : WC X f args s Q := by
  obtain ⟨n, e, ρ1, s1, h1, h2⟩ := h
  cases e with
  | normal =>
    obtain ⟨vs, h3, h4⟩ := h2
    exact ⟨n, tupv vs, s1, by unfold acall enter; simp [hk, hf, hc, hl, h1, h3], h4⟩
  | ret =>
    obtain ⟨vs, h3, h4⟩ := h2
    exact ⟨n, tupv vs, s1, by unfold acall enter; simp [hk, hf, hc, hl, h1, h3], h4⟩
  | exit i => exact h2.elim
  | goto l => exact h2.elim
theorem WC_known {f : Nat} {args : List Value} {Q : Value → St → Prop} {v : Value} (hk : X.known f args = some v) (ha : args.all plainV = true) (hv : cstOk 4 v = true) (hl : laidOk X s = true) (h : Q v s) : WC X f args s Q :=
  ⟨0, v, s, by unfold acall enter; simp only [hk, ha, hv, hl, Bool.and_self, if_true], h⟩
end
end Go.Proofs.Ytndedkpcfjnecaa.Ab
