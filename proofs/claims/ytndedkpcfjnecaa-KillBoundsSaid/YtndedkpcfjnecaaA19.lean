/- Rules by which a simplifier runs regions. -/
import Derived.Test.YtndedkpcfjnecaaA18
import Derived.Laws.BitsLemmas
set_option linter.unusedSimpArgs false
set_option linter.unusedVariables false
namespace Go.Proofs.Ytndedkpcfjnecaa.Ab

theorem put_some (ρ : Env) (d : Nat) (v : Value) : ρ.put (some d) v = ρ.set d v := rfl
theorem put_none (ρ : Env) (v : Value) : ρ.put none v = ρ := rfl
theorem evo_tmp (ρ : Env) (t : Nat) : evo ρ (.tmp t) = ρ.get t := rfl
theorem evo_const (ρ : Env) (v : Value) : evo ρ (.const v) = v := rfl
theorem evo_func (ρ : Env) (f : FuncId) : evo ρ (.func f) = .func (.func f) #[] #[] := rfl
theorem isB_undef (w : Bool) : isB undef w = false := rfl
theorem isB_bool (b w : Bool) : isB (.bool b) w = (b == w) := rfl
theorem boolOf_bool (b : Bool) : boolOf (.bool b) = some b := rfl
theorem tupOf_tuple (vs : Array Value) (i : Nat) : tupOf (.tuple vs) i = vs[i]? := rfl
theorem funOf_func (k : Nat) (a b : Array Value) : funOf (.func (.func k) a b) = some (k, a, b) := rfl

/-! Frames of a call -/
theorem of_nil : Env.of [] = ⟨.nil⟩ := rfl

/-! Whole numbers -/
theorem wrap64 {x : Int} (h1 : -9223372036854775808 ≤ x) (h2 : x < 9223372036854775808) : IntKind.i64.wrap x = x := by
  rw [IntKind.wrap_i64]; omega
section
variable (X : Prg) (t : TypeId) (k : IntKind) (a b : Int)
theorem bin_add : binOpv X .add t (.int k a) (.int k b) = some (.int k (k.wrap (a + b))) := by simp [binOpv, intOp]
theorem bin_sub : binOpv X .sub t (.int k a) (.int k b) = some (.int k (k.wrap (a - b))) := by simp [binOpv, intOp]
theorem bin_mul : binOpv X .mul t (.int k a) (.int k b) = some (.int k (k.wrap (a * b))) := by simp [binOpv, intOp]
theorem bin_quo : binOpv X .quo t (.int k a) (.int k b) = if b = 0 then none else some (.int k (k.wrap (a.tdiv b))) := by simp [binOpv, intOp]
theorem bin_rem : binOpv X .rem t (.int k a) (.int k b) = if b = 0 then none else some (.int k (a.tmod b)) := by simp [binOpv, intOp]
theorem bin_lss : binOpv X .lss t (.int k a) (.int k b) = some (.bool (decide (a < b))) := by simp [binOpv, intOp, cmpI]
theorem bin_leq : binOpv X .leq t (.int k a) (.int k b) = some (.bool (decide (a ≤ b))) := by simp [binOpv, intOp, cmpI]
theorem bin_gtr : binOpv X .gtr t (.int k a) (.int k b) = some (.bool (decide (b < a))) := by simp [binOpv, intOp, cmpI]
theorem bin_geq : binOpv X .geq t (.int k a) (.int k b) = some (.bool (decide (b ≤ a))) := by simp [binOpv, intOp, cmpI]
theorem bin_eql : binOpv X .eql t (.int k a) (.int k b) = some (.bool (decide (a = b))) := by
  simp [binOpv, intOp, cmpI]
  by_cases h : a = b <;> simp [h]
theorem bin_neq : binOpv X .neq t (.int k a) (.int k b) = some (.bool (decide (a ≠ b))) := by
  simp [binOpv, intOp, cmpI]
  by_cases h : a = b <;> simp [h, bne]
theorem un_not (b : Bool) : unOpv .not (.bool b) = some (.bool (!b)) := rfl
theorem un_neg : unOpv .neg (.int k a) = some (.int k (k.wrap (0 - a))) := rfl
end

theorem if_and {p q : Prop} [Decidable (p ∧ q)] {α : Type} {a b : α} (h : p ∧ q) : ite (p ∧ q) a b = a := if_pos h
theorem toNat_cast (n : Nat) : ((n : Nat) : Int).toNat = n := Int.toNat_natCast n
theorem toNat_add1 (n : Nat) : ((n : Int) + 1).toNat = n + 1 := by omega
theorem toNat_sub1 (n : Nat) : ((n : Int) - 1).toNat = n - 1 := by omega

/-! Reading -/
theorem rd_push {s : St} {a : Addr} {n : Nat} {cs : List Value} (h : s.rd a n = some cs) (o : AObj) : (s.push o).rd a n = some cs := by
  unfold St.rd at h ⊢
  rw [St.get_push]
  split at h
  · rename_i h1
    rw [if_neg (by have := St.lt_of_get h1; omega), h1]
    exact h
  · rename_i r h1
    rw [if_neg (by have := St.lt_of_get h1; omega), h1]
    exact h
  · cases h
theorem rd_len {s : St} {a : Addr} {n : Nat} {cs : List Value} (h : s.rd a n = some cs) : cs.length = n := by
  unfold St.rd at h
  split at h
  · split at h
    · cases h; simp; omega
    · cases h
  · split at h
    · cases h; simp; omega
    · cases h
  · cases h
theorem rd_fwd {s : St} {a : Addr} {n k m : Nat} {cs : List Value} (h : s.rd a n = some cs) (hk : k + m ≤ n) : s.rd (Addr.fwd a k) m = some ((cs.drop k).take m) := by
  have e1 : (Addr.fwd a k).block = a.block := rfl
  have e2 : ep (Addr.fwd a k) = ep a := rfl
  have e3 : (Addr.fwd a k).off = a.off + k := rfl
  unfold St.rd at h ⊢
  rw [e1, e2, e3]
  split at h
  · rename_i c h1
    split at h
    · rename_i hc; cases h
      rw [if_pos ⟨hc.1, by omega⟩]
      rw [List.drop_take, List.drop_drop, List.take_take, Nat.min_eq_left (by omega)]
    · cases h
  · rename_i r h1
    split at h
    · rename_i hc; cases h
      rw [if_pos ⟨hc.1, by omega⟩]
      rw [List.drop_take, List.drop_drop, List.take_take, Nat.min_eq_left (by omega)]
    · cases h
  · cases h
theorem fwd_fwd (a : Addr) (m n : Nat) : Addr.fwd (Addr.fwd a m) n = Addr.fwd a (m + n) := by simp [Addr.fwd, Nat.add_assoc]
theorem rd_at {s : St} {a : Addr} {n k : Nat} {cs : List Value} {v : Value} (h : s.rd a n = some cs) (hv : cs[k]? = some v) : s.rd (Addr.fwd a k) 1 = some [v] := by
  have hl := rd_len h
  have hk : k < cs.length := by
    rcases Nat.lt_or_ge k cs.length with h1 | h1
    · exact h1
    · rw [List.getElem?_eq_none h1] at hv; cases hv
  rw [rd_fwd h (by omega), List.drop_eq_getElem_cons hk]
  rw [List.getElem?_eq_getElem hk] at hv
  cases hv
  rfl

/-! Lists of records of one size -/
theorem flatMap_get {α : Type} (f : α → List Value) (k : Nat) (hk : ∀ x, (f x).length = k) : ∀ (l : List α) (i j : Nat) (x : α), l[i]? = some x → j < k → (l.flatMap f)[i * k + j]? = (f x)[j]?
  | [], i, j, x, h, _ => by simp at h
  | y :: l, 0, j, x, h, hj => by
    simp at h; subst h
    rw [List.flatMap_cons, Nat.zero_mul, Nat.zero_add, List.getElem?_append_left (by rw [hk]; exact hj)]
  | y :: l, i + 1, j, x, h, hj => by
    have := flatMap_get f k hk l i j x (by simpa using h) hj
    rw [List.flatMap_cons, List.getElem?_append_right (by rw [hk, Nat.succ_mul]; omega), hk]
    rw [← this]
    congr 1
    rw [Nat.succ_mul]; omega
theorem flatMap_length {α : Type} (f : α → List Value) (k : Nat) (hk : ∀ x, (f x).length = k) : ∀ (l : List α), (l.flatMap f).length = l.length * k
  | [] => by simp
  | y :: l => by rw [List.flatMap_cons, List.length_append, hk, flatMap_length f k hk l, List.length_cons, Nat.succ_mul]; omega
end Go.Proofs.Ytndedkpcfjnecaa.Ab
