/- The evaluator: a deterministic reading of the loaded code over a store of its own. Definitions alone. -/
import Derived.WalkKit
import Derived.Lib.Bytealg
import Derived.KernelRfl
import Derived.Lib.FrozenHead
import Derived.ChangeKeysEq
set_option linter.unusedSimpArgs false
set_option linter.unusedVariables false
set_option linter.unusedSectionVars false
section
namespace Go.Proofs.Yticllcglldbffaa.Ab
inductive Tr (α : Type) where
  | nil
  | node (o : Option α) (l r : Tr α)
def Tr.get {α : Type} : Tr α → Nat → Option α
  | .nil, _ => none
  | .node o l r, i => if i = 0 then o else if i % 2 = 1 then l.get (i / 2) else r.get ((i - 1) / 2)
def Tr.setF {α : Type} : Nat → Tr α → Nat → α → Tr α
  | 0, t, _, _ => t
  | n + 1, .nil, i, v => if i = 0 then .node (some v) .nil .nil else if i % 2 = 1 then .node none (setF n .nil (i / 2) v) .nil else .node none .nil (setF n .nil ((i - 1) / 2) v)
  | n + 1, .node o l r, i, v => if i = 0 then .node (some v) l r else if i % 2 = 1 then .node o (setF n l (i / 2) v) r else .node o l (setF n r ((i - 1) / 2) v)
def Tr.set {α : Type} (t : Tr α) (i : Nat) (v : α) : Tr α := t.setF (i + 1) i v
theorem Tr.get_nil {α : Type} (i : Nat) : (Tr.nil : Tr α).get i = none := rfl
theorem Tr.get_setF {α : Type} : ∀ (n : Nat) (t : Tr α) (i j : Nat) (v : α), i < n → (t.setF n i v).get j = if i = j then some v else t.get j := by
  intro n
  induction n with
  | zero => intro t i j v h; omega
  | succ n ih =>
    intro t i j v h
    have e1 : i ≠ 0 → i % 2 = 1 → j ≠ 0 → j % 2 = 1 → (i / 2 = j / 2 ↔ i = j) := by intros; omega
    have e2 : i ≠ 0 → ¬ i % 2 = 1 → j ≠ 0 → ¬ j % 2 = 1 → ((i - 1) / 2 = (j - 1) / 2 ↔ i = j) := by intros; omega
    cases t with
    | nil =>
      simp only [Tr.setF, Tr.get_nil]
      by_cases hi : i = 0
      · subst hi
        rw [if_pos rfl]
        by_cases hj : j = 0
        · subst hj; simp [Tr.get]
        · have hj' : 0 ≠ j := fun h => hj h.symm
          simp only [Tr.get, if_neg hj, if_neg hj']; split <;> rfl
      · rw [if_neg hi]
        by_cases hi2 : i % 2 = 1
        · rw [if_pos hi2]
          by_cases hj : j = 0
          · subst hj; simp [Tr.get, hi]
          · by_cases hj2 : j % 2 = 1
            · simp only [Tr.get, if_neg hj, if_pos hj2]
              rw [ih _ _ _ _ (by omega)]
              simp only [e1 hi hi2 hj hj2, Tr.get_nil]
            · have : i ≠ j := fun h => hj2 (h ▸ hi2)
              simp [Tr.get, hj, hj2, this]
        · rw [if_neg hi2]
          by_cases hj : j = 0
          · subst hj; simp [Tr.get, hi]
          · by_cases hj2 : j % 2 = 1
            · have : i ≠ j := fun h => hi2 (h ▸ hj2)
              simp [Tr.get, hj, hj2, this]
            · simp only [Tr.get, if_neg hj, if_neg hj2]
              rw [ih _ _ _ _ (by omega)]
              simp only [e2 hi hi2 hj hj2, Tr.get_nil]
    | node o l r =>
      simp only [Tr.setF]
      by_cases hi : i = 0
      · subst hi
        rw [if_pos rfl]
        by_cases hj : j = 0
        · subst hj; simp [Tr.get]
        · have hj' : 0 ≠ j := fun h => hj h.symm
          simp [Tr.get, hj, hj']
      · rw [if_neg hi]
        by_cases hi2 : i % 2 = 1
        · rw [if_pos hi2]
          by_cases hj : j = 0
          · subst hj; simp [Tr.get, hi]
          · by_cases hj2 : j % 2 = 1
            · simp only [Tr.get, if_neg hj, if_pos hj2]
              rw [ih _ _ _ _ (by omega)]
              simp only [e1 hi hi2 hj hj2]
            · have : i ≠ j := fun h => hj2 (h ▸ hi2)
              simp [Tr.get, hj, hj2, this]
        · rw [if_neg hi2]
          by_cases hj : j = 0
          · subst hj; simp [Tr.get, hi]
          · by_cases hj2 : j % 2 = 1
            · have : i ≠ j := fun h => hi2 (h ▸ hj2)
              simp [Tr.get, hj, hj2, this]
            · simp only [Tr.get, if_neg hj, if_neg hj2]
              rw [ih _ _ _ _ (by omega)]
              simp only [e2 hi hi2 hj hj2]
theorem Tr.get_set {α : Type} (t : Tr α) (i j : Nat) (v : α) : (t.set i v).get j = if i = j then some v else t.get j := Tr.get_setF _ _ _ _ _ (Nat.lt_succ_self i)
structure Env where
  tr : Tr Value
def Env.get (ρ : Env) (i : Nat) : Value := (ρ.tr.get i).getD undef
def Env.set (ρ : Env) (i : Nat) (v : Value) : Env := ⟨ρ.tr.set i v⟩
def Env.put (ρ : Env) (d : Option Nat) (v : Value) : Env := match d with | some i => ρ.set i v | none => ρ
def Env.fill : Nat → List Value → Env → Env
  | _, [], ρ => ρ
  | i, v :: vs, ρ => Env.fill (i + 1) vs (ρ.set i v)
def Env.of (args : List Value) : Env := Env.fill 0 args ⟨.nil⟩
theorem Env.get_set (ρ : Env) (i j : Nat) (v : Value) : (ρ.set i v).get j = if i = j then v else ρ.get j := by
  unfold Env.get Env.set
  rw [Tr.get_set]
  split <;> rfl
theorem Env.get_nil (i : Nat) : (Env.mk .nil).get i = undef := rfl
def evo (ρ : Env) : Operand → Value
  | .tmp t => ρ.get t
  | .const v => v
  | .global g => .pointer (some ⟨g, 0, none⟩)
  | .func f => .func (.func f) #[] #[]
structure Row where
  cs : List Value
  elem : TypeId
  ep : Nat
  frz : Nat
  str : Bool
inductive AObj where
  | ro (cs : List Value)
  | own (r : Row)
  | map (es : List MapEntry) (clock : Nat)
  | iter (s : ByteArray) (pos : Nat)
structure St where
  size : Nat
  tr : Tr AObj
def St.get (s : St) (b : Nat) : Option AObj := if b < s.size then s.tr.get b else none
def St.set (s : St) (b : Nat) (o : AObj) : St := ⟨s.size, s.tr.set b o⟩
def St.push (s : St) (o : AObj) : St := ⟨s.size + 1, s.tr.set s.size o⟩
theorem St.lt_of_get {s : St} {b : Nat} {o : AObj} (h : s.get b = some o) : b < s.size := by
  unfold St.get at h
  split at h
  · assumption
  · cases h
theorem St.get_ge {s : St} {b : Nat} (h : s.size ≤ b) : s.get b = none := by
  unfold St.get
  rw [if_neg (by omega)]
theorem St.get_set {s : St} {b : Nat} {o0 : AObj} (h : s.get b = some o0) (c : Nat) (o : AObj) : (s.set b o).get c = if b = c then some o else s.get c := by
  have := St.lt_of_get h
  unfold St.get St.set
  simp only [Tr.get_set]
  split
  · split
    · rfl
    · rfl
  · split
    · omega
    · rfl
theorem St.get_push (s : St) (c : Nat) (o : AObj) : (s.push o).get c = if s.size = c then some o else s.get c := by
  unfold St.get St.push
  simp only [Tr.get_set]
  by_cases h : s.size = c
  · subst h; simp
  · simp only [if_neg h]
    by_cases h1 : c < s.size
    · rw [if_pos (by omega), if_pos h1]
    · rw [if_neg (by omega), if_neg h1]
theorem St.size_set (s : St) (b : Nat) (o : AObj) : (s.set b o).size = s.size := rfl
theorem St.size_push (s : St) (o : AObj) : (s.push o).size = s.size + 1 := rfl
def ep (a : Addr) : Nat := a.spot.getD 0
def St.rd (s : St) (a : Addr) (n : Nat) : Option (List Value) :=
  match s.get a.block with
  | some (.ro cs) => if ep a = 0 ∧ a.off + n ≤ cs.length then some ((cs.drop a.off).take n) else none
  | some (.own r) => if ep a = r.ep ∧ a.off + n ≤ r.cs.length then some ((r.cs.drop a.off).take n) else none
  | _ => none
def over (cs : List Value) (off : Nat) (vs : List Value) : List Value := cs.take off ++ vs ++ cs.drop (off + vs.length)
def St.wr (s : St) (a : Addr) (vs : List Value) : Option St :=
  match s.get a.block with
  | some (.own r) => if ep a = r.ep ∧ a.off + vs.length ≤ r.cs.length ∧ r.frz ≤ a.off ∧ r.str = false ∧ vs.all Value.oneCell' = true then some (s.set a.block (.own { r with cs := over r.cs a.off vs })) else none
  | _ => none
structure Ty where
  und : TypeDesc
  size : Nat
  bytes : Nat
  zero : Value
def Ty.agg (t : Ty) : Bool := match t.und with | .struct _ | .array _ _ => true | _ => false
def plainV : Value → Bool
  | .bool _ | .int _ _ | .string _ => true
  | _ => false
structure Prg where
  ty : Nat → Option Ty
  fn : Nat → Option Func
  /-- struct and array types whose values are compared cell by cell -/
  eqs : Nat → Bool
  /-- the package-level variables that are read, and their cells -/
  laid : List (Nat × List Value)
  /-- what is known of calls, beforehand -/
  known : Nat → List Value → Option Value
def Prg.glob (X : Prg) (g : Nat) : Bool := X.laid.any fun p => p.1 == g
def plainEq : Value → Value → Bool
  | .bool a, .bool b => a == b
  | .int k a, .int k' b => decide (k = k') && a == b
  | .string a, .string b => a.data.toList == b.data.toList
  | _, _ => false
def plainEqs : List Value → List Value → Bool
  | [], [] => true
  | x :: xs, y :: ys => plainEq x y && plainEqs xs ys
  | _, _ => false
def laidOk (X : Prg) (s : St) : Bool := X.laid.all fun p => match s.get p.1 with
  | some (.ro c) => plainEqs c p.2
  | _ => false
def Prg.und (X : Prg) (t : Nat) : Option TypeDesc := match X.ty t with | some ty => some ty.und | none => none
inductive FK where
  | int (k : IntKind)
  | bool
  | str
def flat : FK → Value → Value → Option Bool
  | .int k, .int k' a, .int k'' b => if k' = k ∧ k'' = k then some (a == b) else none
  | .bool, .bool a, .bool b => some (a == b)
  | .str, .string a, .string b => some (a.data.toList == b.data.toList)
  | _, _, _ => none
def flats : List FK → List Value → List Value → Option Bool
  | [], [], [] => some true
  | k :: ks, x :: xs, y :: ys => match flat k x y, flats ks xs ys with
    | some a, some b => some (a && b)
    | _, _ => none
  | _, _, _ => none
def kreps (l : List FK) : Nat → List FK
  | 0 => []
  | n + 1 => l ++ kreps l n
def fieldKinds (X : Prg) (kinds : Nat → Option (List FK)) : List Field → Nat → Option (List FK)
  | [], _ => some []
  | f :: r, off => match X.ty f.type, kinds f.type with
    | some ty, some ks => if f.name ≠ "_" ∧ f.offset = off ∧ ks.length = ty.size then (fieldKinds X kinds r (off + ty.size)).map (ks ++ ·) else none
    | _, _ => none
def kindsOf (X : Prg) : Nat → Nat → Option (List FK)
  | 0, _ => none
  | d + 1, t => match X.ty t with
    | none => none
    | some ty => match ty.und with
      | .bool => some [.bool]
      | .int k => some [.int k]
      | .string => some [.str]
      | .struct fs => if X.eqs t then fieldKinds X (kindsOf X d) fs.toList 0 else none
      | .array n e => match X.ty e, kindsOf X d e with
        | some te, some ks => if X.eqs t ∧ ks.length = te.size then some (kreps ks n) else none
        | _, _ => none
      | _ => none
def capX (c : Nat) : Nat := 2 * c + 1
def capO (m : Nat) : Nat := 2 * m
def Addr.fwd (a : Addr) (n : Nat) : Addr := ⟨a.block, a.off + n, a.spot⟩
def bnd (v : Option Value) (d y : Nat) : Option Nat :=
  match v with
  | none => some d
  | some (.int _ i) => if 0 ≤ i ∧ i ≤ y then some i.toNat else none
  | some _ => none
def sliceOp (X : Prg) (t : TypeId) (x : Value) (lo hi mx : Option Value) : Option Value :=
  match X.ty t with
  | none => none
  | some ty =>
    match ty.und, x with
    | .string, .string b =>
      if mx.isSome then none else
      match bnd hi b.size b.size with
      | some h => match bnd lo 0 h with
        | some l => some (.string (b.extract l h))
        | none => none
      | none => none
    | .slice e, .slice none len _ =>
      if len ≠ 0 then none else
      match mx.elim (some 0) (fun v => bnd (some v) 0 0), bnd hi 0 0, bnd lo 0 0 with
      | some _, some _, some _ => if mx.isSome && hi.isNone then none else if (X.ty e).isSome then some (.slice none 0 0) else none
      | _, _, _ => none
    | .slice e, .slice (some a) len cap =>
      match X.ty e with
      | none => none
      | some te =>
      match mx with
      | some (.int _ m) =>
        if hi.isNone then none else
        if 0 ≤ m ∧ m ≤ ((cap / 2 : Nat) : Int) then
          match bnd hi 0 m.toNat with
          | some h => match bnd lo 0 h with
            | some l => some (.slice (some (Addr.fwd a (l * te.size))) (h - l) (capX (m.toNat - l)))
            | none => none
          | none => none
        else none
      | some _ => none
      | none =>
        match bnd hi len (cap / 2) with
        | some h => match bnd lo 0 h with
          | some l => some (.slice (some (Addr.fwd a (l * te.size))) (h - l) (if cap % 2 = 1 then capX (cap / 2 - l) else capO (cap / 2 - l)))
          | none => none
        | none => none
    | .array n e, .pointer (some a) =>
      if mx.isSome then none else
      match X.ty e, bnd hi n n with
      | some te, some h => match bnd lo 0 h with
        | some l => some (.slice (some (Addr.fwd a (l * te.size))) (h - l) (capX (n - l)))
        | none => none
      | _, _ => none
    | _, _ => none
def loadv (X : Prg) (t : TypeId) (v : Value) (s : St) : Option Value :=
  match X.ty t, v with
  | some ty, .pointer (some a) =>
    match s.rd a ty.size with
    | some cs => if ty.agg then some (.agg cs.toArray) else match cs with | [x] => some x | _ => none
    | none => none
  | _, _ => none
def storev (X : Prg) (t : TypeId) (p v : Value) (s : St) : Option St :=
  match X.ty t, p with
  | some ty, .pointer (some a) => if v.cells.size = ty.size then s.wr a v.cells.toList else none
  | _, _ => none
def newRow (s : St) (elem : TypeId) (cs : List Value) : Nat × St := (s.size, s.push (.own ⟨cs, elem, 0, 0, false⟩))
def ptr (b off : Nat) : Value := .pointer (some ⟨b, off, none⟩)
def partv (X : Prg) (t : TypeId) (cs : Array Value) (off : Nat) : Option Value :=
  match X.ty t with
  | some ty => if ty.agg then (if off + ty.size ≤ cs.size then some (.agg (cs.extract off (off + ty.size))) else none) else cs[off]?
  | none => none
def places (X : Prg) (fs : List Field) : Option (List (Nat × Nat)) :=
  match fs with
  | [] => some []
  | f :: r => match X.ty f.type, places X r with
    | some ty, some l => some ((f.offset, ty.size) :: l)
    | _, _ => none
def evParts (ev : Operand → Value) (ps : Array (Nat × Operand)) : List (Nat × Value) := ps.toList.map fun p => (p.1, ev p.2)
def reps (z : List Value) : Nat → List Value
  | 0 => []
  | n + 1 => z ++ reps z n
def buildv (X : Prg) (t : TypeId) (parts : List (Nat × Value)) : Option Value :=
  match X.ty t with
  | none => none
  | some ty => match ty.und with
    | .struct fs => match places X fs.toList with
      | some l => (Instr.fill (fun i => l[i]?) ty.zero.cells parts).map .agg
      | none => none
    | .array _ e => match X.ty e with
      | some te => (Instr.fill (fun i => some (i * te.size, te.size)) ty.zero.cells parts).map .agg
      | none => none
    | _ => none
def bytesIn : List Value → Option (List UInt8)
  | [] => some []
  | .int .u8 n :: r => (bytesIn r).map (UInt8.ofNat n.toNat :: ·)
  | _ :: _ => none
def bytesOut (l : List UInt8) : List Value := l.map fun b => .int .u8 b.toNat
def convertv (X : Prg) (src dst : TypeId) (x : Value) (s : St) : Option (Value × St) :=
  match X.ty src, X.ty dst with
  | some ts, some td =>
    match ts.und, td.und, x with
    | .int _, .int k, .int _ n => some (.int k (k.wrap n), s)
    | .int _, .string, .int _ n => some (.string (Utf8.encode n), s)
    | .string, .string, .string b => some (.string b, s)
    | .string, .slice e, .string b =>
      match X.und e with
      | some (.int .u8) => some (.slice (some ⟨s.size, 0, none⟩) b.size (capO b.size), s.push (.own ⟨bytesOut b.data.toList, e, 0, 0, true⟩))
      | _ => none
    | .slice e, .string, .slice none _ _ =>
      match X.und e with
      | some (.int .u8) => some (.string .empty, s)
      | _ => none
    | .slice e, .string, .slice (some a) len _ =>
      match X.und e with
      | some (.int .u8) => match s.rd a len with
        | some cs => (bytesIn cs).map fun l => ((.string ⟨l.toArray⟩ : Value), s)
        | none => none
      | _ => none
    | .pointer t, .unsafePointer, .pointer (some a) =>
      match X.ty t, s.get a.block with
      | some tt, some (.own r) => if tt.size ≠ 0 ∧ ep a = r.ep ∧ a.off < r.cs.length then some (.pointer (some a), s) else none
      | _, _ => none
    | .unsafePointer, .pointer u, .pointer (some a) =>
      match X.ty u, s.get a.block with
      | some tu, some (.own r) => if tu.size ≠ 0 ∧ ep a = r.ep ∧ a.off = 0 ∧ r.elem = u ∧ tu.size ≤ r.cs.length then some (.pointer (some a), s) else none
      | _, _ => none
    | _, _, _ => none
  | _, _ => none
def lenv (X : Prg) (t : TypeId) (x : Value) (s : St) : Option Int :=
  match X.ty t with
  | none => none
  | some ty => match ty.und, x with
    | .string, .string b => some b.size
    | .slice _, .slice _ n _ => some n
    | .array n _, _ => some n
    | .pointer arr, _ => match X.und arr with
      | some (.array n _) => some n
      | _ => none
    | .map _ _, .map none => some 0
    | .map _ _, .map (some r) => match s.get r with
      | some (.map es _) => some es.length
      | _ => none
    | _, _ => none
def lenOfv : Value → Option Nat
  | .slice _ n _ => some n
  | .string b => some b.size
  | _ => none
def firstv (s : St) (size n : Nat) : Value → Option (List Value)
  | .slice (some a) _ _ => s.rd a (n * size)
  | .slice none _ _ => if n = 0 then some [] else none
  | .string b => if n ≤ b.size ∧ size = 1 then some (bytesOut (b.data.toList.take n)) else none
  | _ => none
def roomOk (need bytes : Nat) : Bool := need * bytes ≤ 70368744177664 && need ≤ 70368744177664
def newv (X : Prg) (t1 : TypeId) (te : Ty) (y : Value) (s : St) : Option (Nat × List Value) :=
  match X.und t1 with
  | none => none
  | some (.int _) => match y with
    | .int _ n => if 0 ≤ n ∧ roomOk n.toNat te.bytes then some (n.toNat, reps te.zero.cells.toList n.toNat) else none
    | _ => none
  | some _ => match lenOfv y with
    | some n => (firstv s te.size n y).map fun l => (n, l)
    | none => none
def appendTo (te : Ty) (e : TypeId) (n : Nat) (vs : List Value) (x : Value) (s : St) : Option (Value × St) :=
  match x with
  | .slice none len _ =>
    if len ≠ 0 then none else
    if n = 0 then some (.slice none 0 0, s) else
    if roomOk n te.bytes then some (.slice (some ⟨s.size, 0, none⟩) n (capO n), s.push (.own ⟨vs, e, 0, 0, false⟩)) else none
  | .slice (some a) len cap =>
    if n = 0 then some (.slice (some a) len cap, s) else
    if len + n ≤ cap / 2 then
      match s.wr (Addr.fwd a (len * te.size)) vs with
      | some s' => some (.slice (some a) (len + n) cap, s')
      | none => none
    else if cap % 2 = 1 then
      if roomOk (len + n) te.bytes then
        match s.rd a (len * te.size) with
        | some old => some (.slice (some ⟨s.size, 0, none⟩) (len + n) (capO (len + n)), s.push (.own ⟨old ++ vs, e, 0, 0, false⟩))
        | none => none
      else none
    else
      match s.get a.block with
      | some (.own r) =>
        if roomOk (len + n) te.bytes ∧ ep a = r.ep ∧ a.off = 0 ∧ r.cs.length = len * te.size ∧ r.elem = e ∧ vs.all Value.oneCell' = true ∧ r.frz ≤ len * te.size ∧ r.str = false then
          some (.slice (some ⟨a.block, 0, some (r.ep + 1)⟩) (len + n) (capO (len + n)), s.set a.block (.own { r with cs := r.cs ++ vs, ep := r.ep + 1 }))
        else none
      | _ => none
  | _ => none
def appendv (X : Prg) (argTypes : Array TypeId) (x y : Value) (s : St) : Option (Value × St) :=
  match argTypes[0]?, argTypes[1]? with
  | some t, some t1 => match X.und t with
    | some (.slice e) => match X.ty e with
      | some te => match newv X t1 te y s with
        | some (n, vs) => appendTo te e n vs x s
        | none => none
      | none => none
    | _ => none
  | _, _ => none
def copyTo (n dLen : Nat) (cs : List Value) (base : Option Addr) (s : St) : Option (Value × St) :=
  match base with
  | none => if dLen = 0 then some (.int .i64 n, s) else none
  | some a => if n = 0 then some (.int .i64 n, s) else (s.wr a cs).map fun s' => (.int .i64 n, s')
def copyv (X : Prg) (argTypes : Array TypeId) (x y : Value) (s : St) : Option (Value × St) :=
  match argTypes[0]? with
  | some t => match X.und t with
    | some (.slice e) => match X.ty e, x, lenOfv y with
      | some te, .slice base dLen _, some m => match firstv s te.size (Nat.min m dLen) y with
        | some cs => copyTo (Nat.min m dLen) dLen cs base s
        | none => none
      | _, _, _ => none
    | _ => none
  | none => none
def clearv (X : Prg) (argTypes : Array TypeId) (x : Value) (s : St) : Option (Value × St) :=
  match argTypes[0]? with
  | some t => match X.ty t with
    | some ty => match ty.und, x with
      | .slice _, .slice none _ _ => some (.tuple #[], s)
      | .slice e, .slice (some a) n _ => if n = 0 then some (.tuple #[], s) else match X.ty e with
        | some te => (s.wr a (reps te.zero.cells.toList n)).map fun s' => (.tuple #[], s')
        | none => none
      | _, _ => none
    | none => none
  | none => none
def keyEq : TypeDesc → Value → Value → Option Bool
  | .int _, .int k a, .int k' b => if k = k' then some (a == b) else none
  | .string, .string a, .string b => some (a.data.toList == b.data.toList)
  | _, _, _ => none
def findE (d : TypeDesc) (k : Value) : List MapEntry → Nat → Option (Option (Nat × Value))
  | [], _ => some none
  | e :: es, i => match keyEq d k e.key with
    | some true => some (some (i, e.val))
    | some false => findE d k es (i + 1)
    | none => none
def cstOk0 : Value → Bool
  | .int _ _ | .string _ => true
  | _ => false
def keyTy : TypeDesc → Bool
  | .int _ | .string => true
  | _ => false
def entries (m : Value) (s : St) : Option (List MapEntry) :=
  match m with
  | .map none => some []
  | .map (some r) => match s.get r with | some (.map es _) => some es | _ => none
  | _ => none
def lookupv (X : Prg) (t : TypeId) (m k : Value) (ok : Bool) (s : St) : Option Value :=
  match X.und t with
  | some (.map kt et) => match X.und kt, X.ty et, entries m s with
    | some dk, some te, some es =>
      if keyTy dk then
        match findE dk k es 0 with
        | some (some (_, v)) => some (if ok then .tuple #[v, .bool true] else v)
        | some none => some (if ok then .tuple #[te.zero, .bool false] else te.zero)
        | none => none
      else none
    | _, _, _ => none
  | _ => none
def setVal (es : List MapEntry) (i : Nat) (v : Value) : List MapEntry := es.modify i fun e => { e with val := v }
def mapUpdatev (X : Prg) (t : TypeId) (m k v : Value) (s : St) : Option St :=
  match X.und t, m with
  | some (.map kt _), .map (some r) => match X.und kt, s.get r with
    | some dk, some (.map es clock) =>
      if keyTy dk ∧ cstOk0 k then
        match findE dk k es 0 with
        | some (some (i, _)) => some (s.set r (.map (setVal es i v) clock))
        | some none => some (s.set r (.map (es ++ [{ key := k, val := v, born := clock }]) (clock + 1)))
        | none => none
      else none
    | _, _ => none
  | _, _ => none
def deletev (X : Prg) (t : TypeId) (m k : Value) (s : St) : Option St :=
  match X.und t, m with
  | some (.map kt _), .map (some r) => match X.und kt, s.get r with
    | some dk, some (.map es clock) =>
      if keyTy dk then
        match findE dk k es 0 with
        | some (some (i, _)) => some (s.set r (.map (es.eraseIdx i) clock))
        | some none => some (s.set r (.map es clock))
        | none => none
      else none
    | _, _ => none
  | _, _ => none
def bytesX : List Value → Option (List UInt8)
  | [] => some []
  | .int .u8 n :: r => if 0 ≤ n ∧ n < 256 then (bytesX r).map (UInt8.ofNat n.toNat :: ·) else none
  | _ :: _ => none
def unsafeStr (X : Prg) (argTypes : Array TypeId) (p : Option Addr) (n : Int) (s : St) : Option (Value × St) :=
  match argTypes.toList with
  | [pt, _] =>
    if n = 0 then some (.string .empty, s) else
    match p with
    | some a => match X.und pt, s.get a.block with
      | some (.pointer e), some (.own r) => match X.ty e with
        | some te => if te.size = 1 ∧ ep a = r.ep ∧ a.off = 0 ∧ r.elem = e ∧ 0 ≤ n ∧ n.toNat ≤ r.cs.length ∧ roomOk n.toNat 1 then
            match bytesX (r.cs.take n.toNat) with
            | some l => some (.string ⟨l.toArray⟩, s.set a.block (.own { r with frz := max r.frz n.toNat }))
            | none => none
          else none
        | none => none
      | _, _ => none
    | none => none
  | _ => none
def min2v : Value → Value → Option Value
  | .int k x, .int _ y => some (.int k (if y < x then y else x))
  | _, _ => none
def max2v : Value → Value → Option Value
  | .int k x, .int _ y => some (.int k (if y > x then y else x))
  | _, _ => none
def foldv (f : Value → Value → Option Value) : Value → List Value → Option Value
  | x, [] => some x
  | x, y :: r => match f x y with | some z => foldv f z r | none => none
def builtinv (X : Prg) (b : Builtin) (argTypes : Array TypeId) (args : List Value) (s : St) : Option (Value × St) :=
  match b, args with
  | .len, [x] => match argTypes[0]? with
    | some t => (lenv X t x s).map fun n => (.int .i64 n, s)
    | none => none
  | .cap, [.slice none 0 0] => match argTypes[0]? with
    | some t => match X.und t with
      | some (.slice _) => some (.int .i64 0, s)
      | _ => none
    | none => none
  | .cap, [.slice (some _) _ c] => match argTypes[0]? with
    | some t => match X.und t with
      | some (.slice _) => if c % 2 = 1 then some (.int .i64 (c / 2 : Nat), s) else none
      | _ => none
    | none => none
  | .append, [x, y] => appendv X argTypes x y s
  | .copy, [x, y] => copyv X argTypes x y s
  | .clear, [x] => clearv X argTypes x s
  | .delete, [m, k] => match argTypes[0]? with
    | some t => (deletev X t m k s).map fun s' => (.tuple #[], s')
    | none => none
  | .unsafeSliceData, [.slice none 0 0] => some (.pointer none, s)
  | .unsafeSliceData, [.slice (some a) _ c] => if c / 2 ≠ 0 then some (.pointer (some a), s) else none
  | .unsafeString, [.pointer p, .int .i64 n] => unsafeStr X argTypes p n s
  | .min, x :: r => (foldv min2v x r).map fun v => (v, s)
  | .max, x :: r => (foldv max2v x r).map fun v => (v, s)
  | _, _ => none
def cmpI (op : BinOp) (x y : Int) : Option Bool :=
  match op with
  | .eql => some (x == y)
  | .neq => some (x != y)
  | .lss => some (x < y)
  | .leq => some (x ≤ y)
  | .gtr => some (x > y)
  | .geq => some (x ≥ y)
  | _ => none
def bitsI (op : BinOp) (k : IntKind) (x y : Int) : Option Int :=
  match op with
  | .and => some (k.wrap (BitVec.ofInt k.bits x &&& BitVec.ofInt k.bits y).toNat)
  | .or => some (k.wrap (BitVec.ofInt k.bits x ||| BitVec.ofInt k.bits y).toNat)
  | .xor => some (k.wrap (BitVec.ofInt k.bits x ^^^ BitVec.ofInt k.bits y).toNat)
  | .andNot => some (k.wrap (BitVec.ofInt k.bits x &&& ~~~(BitVec.ofInt k.bits y)).toNat)
  | _ => none
def intOp (op : BinOp) (k : IntKind) (x y : Int) : Option Value :=
  match op with
  | .add => some (.int k (k.wrap (x + y)))
  | .sub => some (.int k (k.wrap (x - y)))
  | .mul => some (.int k (k.wrap (x * y)))
  | .quo => if y = 0 then none else some (.int k (k.wrap (x.tdiv y)))
  | .rem => if y = 0 then none else some (.int k (x.tmod y))
  | .and | .or | .xor | .andNot => (bitsI op k x y).map (.int k)
  | .shl | .shr => none
  | _ => (cmpI op x y).map .bool
def strLt : List UInt8 → List UInt8 → Bool
  | _, [] => false
  | [], _ :: _ => true
  | a :: x, b :: y => a < b || (a == b && strLt x y)
def strOp (op : BinOp) (x y : ByteArray) : Option Value :=
  match op with
  | .add => if x.size + y.size ≤ 140737488355328 then some (.string ⟨(x.data.toList ++ y.data.toList).toArray⟩) else none
  | .eql => some (.bool (x.data.toList == y.data.toList))
  | .neq => some (.bool (!(x.data.toList == y.data.toList)))
  | .lss => some (.bool (strLt x.data.toList y.data.toList))
  | .leq => some (.bool (strLt x.data.toList y.data.toList || x.data.toList == y.data.toList))
  | .gtr => some (.bool (!(strLt x.data.toList y.data.toList || x.data.toList == y.data.toList)))
  | .geq => some (.bool (!(strLt x.data.toList y.data.toList)))
  | _ => none
def eqv0 (X : Prg) (t : TypeId) : Value → Value → Option Bool
  | .bool a, .bool b => match X.und t with | some .bool => some (a == b) | _ => none
  | .pointer none, .pointer b => match X.und t with | some (.pointer _) => some b.isNone | _ => none
  | .pointer (some _), .pointer none => match X.und t with | some (.pointer _) => some false | _ => none
  | .pointer (some a), .pointer (some b) => match X.und t with
    | some (.pointer e) => match X.ty e with
      | some te => if te.size ≠ 0 ∧ a = b then some true else none
      | none => none
    | _ => none
  | .slice none _ _, .slice b _ _ => match X.und t with | some (.slice _) => some b.isNone | _ => none
  | .slice (some _) _ _, .slice none _ _ => match X.und t with | some (.slice _) => some false | _ => none
  | .map none, .map b => match X.und t with | some (.map _ _) => some b.isNone | _ => none
  | .map (some _), .map none => match X.und t with | some (.map _ _) => some false | _ => none
  | .nilFunc, .nilFunc => match X.und t with | some (.func _ _ _) => some true | _ => none
  | .func _ _ _, .nilFunc | .nilFunc, .func _ _ _ => match X.und t with | some (.func _ _ _) => some false | _ => none
  | _, _ => none
def eqv (X : Prg) (t : TypeId) (x y : Value) : Option Bool :=
  match x, y with
  | .agg xs, .agg ys => match X.ty t, kindsOf X 8 t with
    | some ty, some ks => if ty.agg then flats ks xs.toList ys.toList else none
    | _, _ => none
  | x, y => eqv0 X t x y
def binOpv (X : Prg) (op : BinOp) (t : TypeId) (x y : Value) : Option Value :=
  match op, x, y with
  | .shl, .int k a, .int _ b => if b < 0 then none else some (.int k (k.wrap (a * 2 ^ (min b.toNat k.bits))))
  | .shr, .int k a, .int _ b => if b < 0 then none else some (.int k (a.fdiv (2 ^ (min b.toNat k.bits))))
  | op, .int k a, .int k' b => if k = k' then intOp op k a b else none
  | op, .string a, .string b => strOp op a b
  | .eql, x, y => (eqv X t x y).map .bool
  | .neq, x, y => (eqv X t x y).map fun b => .bool (!b)
  | _, _, _ => none
def unOpv (op : UnOp) (x : Value) : Option Value :=
  match op, x with
  | .neg, .int k n => some (.int k (k.wrap (0 - n)))
  | .xor, .int k n => (bitsI .xor k (if k.signed then -1 else k.max) n).map (.int k)
  | .not, .bool b => some (.bool (!b))
  | _, _ => none
def nilCheckv : Value → Option Value
  | .pointer (some a) => some (.pointer (some a))
  | .func (.func f) a b => some (.func (.func f) a b)
  | _ => none
def fieldAddrv (X : Prg) (t : TypeId) (x : Value) (f : Nat) : Option Value :=
  match X.und t, x with
  | some (.struct fs), .pointer (some a) => match fs[f]? with
    | some fd => match X.ty fd.type with
      | some ty => if ty.size ≠ 0 then some (.pointer (some (Addr.fwd a fd.offset))) else none
      | none => none
    | none => none
  | _, _ => none
def fieldv (X : Prg) (t : TypeId) (x : Value) (f : Nat) : Option Value :=
  match X.und t, x with
  | some (.struct fs), .agg cs => match fs[f]? with
    | some fd => partv X fd.type cs fd.offset
    | none => none
  | _, _ => none
def indexAddrv (X : Prg) (t : TypeId) (x i : Value) : Option Value :=
  match X.und t, x, i with
  | some (.array n e), .pointer (some a), .int _ j => match X.ty e with
    | some te => if 0 ≤ j ∧ j < n ∧ te.size ≠ 0 then some (.pointer (some (Addr.fwd a (j.toNat * te.size)))) else none
    | none => none
  | some (.slice e), .slice (some a) len _, .int _ j => match X.ty e with
    | some te => if 0 ≤ j ∧ j < len ∧ te.size ≠ 0 then some (.pointer (some (Addr.fwd a (j.toNat * te.size)))) else none
    | none => none
  | _, _, _ => none
def indexv (X : Prg) (t : TypeId) (x i : Value) : Option Value :=
  match X.und t, x, i with
  | some (.array n e), .agg cs, .int _ j => match X.ty e with
    | some te => if 0 ≤ j ∧ j < n then partv X e cs (j.toNat * te.size) else none
    | none => none
  | some .string, .string b, .int _ j => if 0 ≤ j ∧ j < b.size then (b.data.toList[j.toNat]?).map fun c => .int .u8 c.toNat else none
  | _, _, _ => none
def aop (X : Prg) (ev : Operand → Value) (op : Op) (s : St) : Option (Value × St) :=
  match op with
  | .move x | .assign x => some (ev x, s)
  | .pick c a b => match ev c with | .bool t => some (if t then ev a else ev b, s) | _ => none
  | .alloc t => match X.ty t with | some ty => some (ptr s.size 0, s.push (.own ⟨ty.zero.cells.toList, t, 0, 0, false⟩)) | none => none
  | .box t v => match X.ty t with | some _ => some (ptr s.size 0, s.push (.own ⟨(ev v).cells.toList, t, 0, 0, false⟩)) | none => none
  | .build t ps => (buildv X t (evParts ev ps)).map fun v => (v, s)
  | .buildSlice t n ps => match X.und t with
    | some (.slice e) => match X.ty e with
      | some te => if n * te.size ≤ 65536 then
          match Instr.fill (fun i => some (i * te.size, te.size)) (reps te.zero.cells.toList n).toArray (evParts ev ps) with
          | some cs => some (.slice (some ⟨s.size, 0, none⟩) n (capX n), s.push (.own ⟨cs.toList, e, 0, 0, false⟩))
          | none => none
        else none
      | none => none
    | _ => none
  | .load t a => (loadv X t (ev a) s).map fun v => (v, s)
  | .store t a v => (storev X t (ev a) (ev v) s).map fun s' => (undef, s')
  | .nilCheck x => (nilCheckv (ev x)).map fun v => (v, s)
  | .binOp op t x y _ => (binOpv X op t (ev x) (ev y)).map fun v => (v, s)
  | .unOp op _ x => (unOpv op (ev x)).map fun v => (v, s)
  | .convert a b x => convertv X a b (ev x) s
  | .makeFunc fn first captured => some (.func fn (first.map ev) (captured.map ev), s)
  | .makeMap t none => match X.und t with
    | some (.map _ _) => some (.map (some s.size), s.push (.map [] 0))
    | _ => none
  | .makeSlice t l c => match X.und t, ev l, ev c with
    | some (.slice e), .int _ n, .int _ m => match X.ty e with
      | some te => if 0 ≤ n ∧ n ≤ m ∧ roomOk m.toNat te.bytes then
          some (.slice (some ⟨s.size, 0, none⟩) n.toNat (capX m.toNat), s.push (.own ⟨reps te.zero.cells.toList m.toNat, e, 0, 0, false⟩))
        else none
      | none => none
    | _, _, _ => none
  | .slice t x lo hi mx => (sliceOp X t (ev x) (lo.map ev) (hi.map ev) (mx.map ev)).map fun v => (v, s)
  | .fieldAddr t x f => (fieldAddrv X t (ev x) f).map fun v => (v, s)
  | .field t x f => (fieldv X t (ev x) f).map fun v => (v, s)
  | .indexAddr t x i => (indexAddrv X t (ev x) (ev i)).map fun v => (v, s)
  | .index t x i => (indexv X t (ev x) (ev i)).map fun v => (v, s)
  | .lookup t m k ok => (lookupv X t (ev m) (ev k) ok s).map fun v => (v, s)
  | .mapUpdate t m k v => (mapUpdatev X t (ev m) (ev k) (ev v) s).map fun s' => (undef, s')
  | .range t x => match X.und t, ev x with
    | some .string, .string b => some (ptr s.size 0, s.push (.iter b 0))
    | _, _ => none
  | .next it true => match ev it with
    | .pointer (some a) => if a.off = 0 then match s.get a.block with
      | some (.iter b pos) => if pos < b.size then
          some (.tuple #[.bool true, .int .i64 pos, .int .i32 (Utf8.decode b pos).1], s.set a.block (.iter b (pos + (Utf8.decode b pos).2)))
        else some (.tuple #[.bool false], s)
      | _ => none
      else none
    | _ => none
  | .extract t i => match ev t with
    | .tuple vs => (vs[i]?).map fun v => (v, s)
    | _ => none
  | .call { callee := .builtin b, args, argTypes } => builtinv X b argTypes (args.toList.map ev) s
  | _ => none
end Go.Proofs.Yticllcglldbffaa.Ab
end
section
namespace Go.Proofs.Yticllcglldbffaa.Ab
abbrev Caller := Nat → List Value → St → Option (Value × St)
inductive Xit where
  | normal
  | exit (id : Nat)
  | goto (l : Nat)
  | ret
def wantedE (all : Array Oper) (o : Oper) (ρ : Env) : Bool :=
  match o.guard with
  | none => true
  | some (j, want) => match (all[j]?).bind (·.dst) with
    | some d => match ρ.get d with
      | .bool b => b == want
      | _ => false
    | none => false
def stepOp (call : Caller) (X : Prg) (o : Oper) (ρ : Env) (s : St) : Option (Value × St) :=
  match o.op with
  | .call { callee := .value f, args, .. } => match evo ρ f with
    | .func (.func k) first captured => call k (first.toList ++ args.toList.map (evo ρ) ++ captured.toList) s
    | _ => none
  | op => aop X (evo ρ) op s
def runOps (call : Caller) (X : Prg) (all : Array Oper) : List Oper → Env → St → Option (Env × St)
  | [], ρ, s => some (ρ, s)
  | o :: r, ρ, s =>
    if wantedE all o ρ then
      match stepOp call X o ρ s with
      | some (v, s') => runOps call X all r (ρ.put o.dst v) s'
      | none => none
    else runOps call X all r (ρ.put o.dst undef) s
def isEff : Op → Bool
  | .store _ _ _ | .mapUpdate _ _ _ _ | .next _ _ => true
  | .call { callee := .value _, .. } => true
  | .call { callee := .builtin b, .. } => match b with
    | .append | .copy | .clear | .delete | .unsafeString => true
    | _ => false
  | _ => false
def isNew (X : Prg) : Op → Bool
  | .alloc _ | .box _ _ | .buildSlice _ _ _ | .makeMap _ _ | .makeSlice _ _ _ | .range _ _ => true
  | .convert a b _ => match X.und a, X.und b with
    | some .string, some (.slice _) => true
    | _, _ => false
  | _ => false
def plainEdge (e : Edge) : Bool := match e.ground with
  | .textOnly _ | .gcOnly _ => false
  | _ => true
def befs (ops : List Oper) : List Nat :=
  ops.foldl (fun acc o => acc ++ [(o.after.toList.filter plainEdge).foldl (fun m e => m ||| 2 ^ e.on ||| acc.getD e.on 0) 0]) []
def looks (ops : List Oper) (o : Oper) : List Nat :=
  (o.op.operands.toList.filterMap fun x => match x with | .tmp t => some t | _ => none) ++
  (match o.guard with
   | some (j, _) => match (ops[j]?).bind (·.dst) with | some d => [d] | none => []
   | none => [])
def iota : Nat → List Nat
  | 0 => []
  | n + 1 => iota n ++ [n]
def statOk (X : Prg) (ops : List Oper) : Bool :=
  let bs := befs ops
  let n := ops.length
  (iota n).all fun i => match ops[i]? with
    | none => false
    | some o =>
      (o.after.toList.all fun e => !plainEdge e || decide (e.on < i)) &&
      (match o.op with | .select _ _ => false | _ => true) &&
      ((iota n).all fun j => j == i || (match ops[j]? with
        | none => false
        | some p =>
          (match p.dst with
           | none => true
           | some d => !(looks ops o).contains d || (bs.getD i 0).testBit j || (bs.getD j 0).testBit i) &&
          (match p.dst, o.dst with
           | some d, some d' => d != d'
           | _, _ => true) &&
          (!(isEff o.op && isEff p.op) || (bs.getD i 0).testBit j || (bs.getD j 0).testBit i) &&
          (!(isEff o.op && isNew X p.op && decide (j < i)) || (bs.getD i 0).testBit j)))
def aeq : Nat → Value → Value → Bool
  | _, .bool a, .bool b => a == b
  | _, .int k a, .int k' b => k == k' && a == b
  | _, .string a, .string b => a.data.toList == b.data.toList
  | _, .pointer a, .pointer b => a == b
  | _, .slice a l c, .slice b l' c' => a == b && l == l' && c == c'
  | _, .map a, .map b => a == b
  | _, .nilFunc, .nilFunc => true
  | _, .nilIface, .nilIface => true
  | n + 1, .func f a b, .func g c d => f == g && (aeqs n a.toList c.toList && aeqs n b.toList d.toList)
  | n + 1, .agg a, .agg b => aeqs n a.toList b.toList
  | n + 1, .tuple a, .tuple b => aeqs n a.toList b.toList
  | n + 1, .iface t a, .iface u b => t == u && aeq n a b
  | _, _, _ => false
where aeqs : Nat → List Value → List Value → Bool
  | _, [], [] => true
  | n + 1, x :: xs, y :: ys => aeq n x y && aeqs n xs ys
  | _, _, _ => false
def trace (call : Caller) (X : Prg) (all : Array Oper) : List Oper → Env → St → List (Env × St)
  | [], ρ, s => [(ρ, s)]
  | o :: r, ρ, s =>
    if wantedE all o ρ then
      match stepOp call X o ρ s with
      | some (v, s') => (ρ, s) :: trace call X all r (ρ.put o.dst v) s'
      | none => [(ρ, s)]
    else (ρ, s) :: trace call X all r (ρ.put o.dst undef) s
def sameAt (X : Prg) (T : Env) (o : Oper) (ρ : Env) (s : Option (Env × St)) : Bool :=
  match s with
  | none => false
  | some s => match aop X (evo ρ) o.op s.2 with
    | some (v, _) => match o.dst with
      | some d => aeq 1000 v (T.get d)
      | none => true
    | none => false
def effsOf (ops : List Oper) : List Nat := (iota ops.length).filter fun j => match ops[j]? with | some p => isEff p.op | none => false
def readsOk (X : Prg) (ops : List Oper) (T : Env) (tr : List (Env × St)) : Bool :=
  (effsOf ops).isEmpty || (iota ops.length).all fun i => match ops[i]?, tr[i]? with
    | some o, some at_ => isEff o.op || isNew X o.op || (effsOf ops).all fun j => ((befs ops).getD i 0).testBit j || ((befs ops).getD j 0).testBit i || !wantedE ops.toArray o at_.1 ||
        sameAt X T o at_.1 (if j < i then tr[j]? else tr[j + 1]?)
    | _, _ => false
def region (call : Caller) (X : Prg) (ops : List Oper) (draw : Bool) (ρ : Env) (s : St) : Option (Env × St) :=
  match runOps call X ops.toArray ops ρ s with
  | none => none
  | some (T, s') =>
    if draw then
      if readsOk X ops T (trace call X ops.toArray ops ρ s) then some (T, s') else none
    else some (T, s')
def cstOk : Nat → Value → Bool
  | _, .bool _ | _, .int _ _ | _, .string _ | _, .pointer none | _, .slice none 0 0 | _, .map none | _, .nilFunc | _, .nilIface => true
  | n + 1, .agg a => a.toList.all (cstOk n)
  | n + 1, .tuple a => a.toList.all (cstOk n)
  | n + 1, .iface _ v => cstOk n v
  | _, _ => false
def resv (X : Prg) (ρ : Env) (s : St) : ResultVar → Option Value
  | .tmp t => some (ρ.get t)
  | .cell a t => loadv X t (ρ.get a) s
def resvs (X : Prg) (ρ : Env) (s : St) : List ResultVar → Option (List Value)
  | [] => some []
  | r :: rs => match resv X ρ s r, resvs X ρ s rs with
    | some v, some vs => some (v :: vs)
    | _, _ => none
def tupv : List Value → Value
  | [v] => v
  | vs => .tuple vs.toArray
def isSame (fn : Func) : Bool := fn.name == "internal/abi.NoEscape" && fn.origin == ""
def isNoZero (fn : Func) : Bool := fn.name == "internal/bytealg.MakeNoZero" && fn.origin == ""
def isByteAt (fn : Func) : Bool := fn.name == "internal/bytealg.IndexByteString" && fn.origin == ""
def isCount (fn : Func) : Bool := fn.name == "internal/bytealg.CountString" && fn.origin == ""
def isCmp (fn : Func) : Bool := fn.name == "internal/bytealg.abigen_runtime_cmpstring" && fn.origin == ""
def entry (X : Prg) (fn : Func) (args : List Value) (s : St) : Option (Value × St) :=
  if isSame fn then match args with
    | [x] => some (x, s)
    | _ => none
  else if isNoZero fn then match args, fn.resultTypes.toList with
    | [.int .i64 n], [t] => match X.und t with
      | some (.slice e) => match X.und e with
        | some (.int .u8) => if 0 ≤ n ∧ roomOk n.toNat 1 then some (.slice (some ⟨s.size, 0, none⟩) n.toNat (capO 0), s.push (.own ⟨[], e, 0, 0, false⟩)) else none
        | _ => none
      | _ => none
    | _, _ => none
  else if isByteAt fn then match args with
    | [.string b, .int .u8 c] => some (.int .i64 (firstIdx b c.toNat.toUInt8), s)
    | _ => none
  else if isCount fn then match args with
    | [.string b, .int .u8 c] => some (.int .i64 (Lib.countByte b.data.toList c.toNat.toUInt8), s)
    | _ => none
  else if isCmp fn then match args with
    | [.string a, .string b] => some (.int .i64 (Lib.compareBytes a.data.toList b.data.toList), s)
    | _ => none
  else none
def enter (ex : Code → Env → St → Option (Xit × Env × St)) (X : Prg) (f : Nat) (args : List Value) (s : St) : Option (Value × St) :=
  match X.known f args with
  | some v => if args.all plainV && (cstOk 4 v && laidOk X s) then some (v, s) else none
  | none => match X.fn f with
  | none => none
  | some fn => match fn.body with
    | none => entry X fn args s
    | some c =>
      if args.length ≤ fn.ntmps then
        match ex c (Env.of args) s with
        | some (.normal, ρ, s') | some (.ret, ρ, s') => (resvs X ρ s' fn.results.toList).map fun vs => (tupv vs, s')
        | _ => none
      else none
def exec (X : Prg) : Nat → Code → Env → St → Option (Xit × Env × St)
  | 0, _, _, _ => none
  | n + 1, c, ρ, s =>
    match c with
    | .skip | .label _ => some (.normal, ρ, s)
    | .region _ ops draw => (region (enter (exec X n) X) X ops.toList draw ρ s).map fun p => (.normal, p.1, p.2)
    | .seq a b => match exec X n a ρ s with
      | some (.normal, ρ', s') => exec X n b ρ' s'
      | r => r
    | .cond c a b => match evo ρ c with
      | .bool t => exec X n (if t then a else b) ρ s
      | _ => none
    | .block id c => match exec X n c ρ s with
      | some (.exit i, ρ', s') => if i = id then some (.normal, ρ', s') else some (.exit i, ρ', s')
      | r => r
    | .loop c => match exec X n c ρ s with
      | some (.normal, ρ', s') => exec X n (.loop c) ρ' s'
      | r => r
    | .exit id => some (.exit id, ρ, s)
    | .goto l => some (.goto l, ρ, s)
    | .ret => some (.ret, ρ, s)
    | .scope c => jump X n c c ρ s
    | _ => none
where jump (X : Prg) : Nat → Code → Code → Env → St → Option (Xit × Env × St)
  | 0, _, _, _, _ => none
  | n + 1, whole, c, ρ, s => match exec X n c ρ s with
    | some (.goto l, ρ', s') => match findLabel whole l with
      | some r => jump X n whole r ρ' s'
      | none => some (.goto l, ρ', s')
    | r => r
def acall (X : Prg) (n f : Nat) (args : List Value) (s : St) : Option (Value × St) := enter (exec X n) X f args s
end Go.Proofs.Yticllcglldbffaa.Ab
end
section
namespace Go.Proofs.Yticllcglldbffaa.Ab
structure Loc where
  c : Nat
  off : Nat
  N : Nat
  sz : Nat
abbrev Phi := Nat → Nat → Option Loc
mutual
inductive VRel (φ : Phi) : Value → Value → Prop
  | bool (b : Bool) : VRel φ (.bool b) (.bool b)
  | int (k : IntKind) (n : Int) : VRel φ (.int k n) (.int k n)
  | string (s : ByteArray) : VRel φ (.string s) (.string s)
  | nilPtr : VRel φ (.pointer none) (.pointer none)
  | nilSlice : VRel φ (.slice none 0 0) (.slice none 0 0)
  | nilMap : VRel φ (.map none) (.map none)
  | nilFunc : VRel φ .nilFunc .nilFunc
  | nilIface : VRel φ .nilIface .nilIface
  | ptr (a : Addr) (l : Loc) : φ a.block (ep a) = some l → VRel φ (.pointer (some a)) (.pointer (some ⟨l.c, l.off + a.off, none⟩))
  | slice (a : Addr) (l : Loc) (len cap : Nat) (aa : Addr) (cap' : Nat) : φ a.block (ep a) = some l → (aa = ⟨l.c, l.off + a.off, none⟩ ∨ cap' = 0) → len ≤ cap' → (cap % 2 = 1 → cap' = cap / 2) → cap / 2 ≤ cap' →
      (cap % 2 = 0 → a.off = 0 → cap' * l.sz ≤ l.N) → VRel φ (.slice (some a) len cap) (.slice (some aa) len cap')
  | map (r : Nat) (l : Loc) : φ r 0 = some l → VRel φ (.map (some r)) (.map (some l.c))
  | func (fn : Fn) (a b a' b' : Array Value) : VRels φ a.toList a'.toList → VRels φ b.toList b'.toList → VRel φ (.func fn a b) (.func fn a' b')
  | iface (t : TypeId) (v v' : Value) : VRel φ v v' → VRel φ (.iface t v) (.iface t v')
  | agg (a a' : Array Value) : VRels φ a.toList a'.toList → VRel φ (.agg a) (.agg a')
  | tuple (a a' : Array Value) : VRels φ a.toList a'.toList → VRel φ (.tuple a) (.tuple a')
inductive VRels (φ : Phi) : List Value → List Value → Prop
  | nil : VRels φ [] []
  | cons (v v' : Value) (l l' : List Value) : VRel φ v v' → VRels φ l l' → VRels φ (v :: l) (v' :: l')
end
def Phi.le (φ φ' : Phi) : Prop := ∀ b e l, φ b e = some l → φ' b e = some l
mutual
theorem VRel.mono {φ φ' : Phi} (h : φ.le φ') : ∀ {v v' : Value}, VRel φ v v' → VRel φ' v v'
  | _, _, .bool b => .bool b
  | _, _, .int k n => .int k n
  | _, _, .string s => .string s
  | _, _, .nilPtr => .nilPtr
  | _, _, .nilSlice => .nilSlice
  | _, _, .nilMap => .nilMap
  | _, _, .nilFunc => .nilFunc
  | _, _, .nilIface => .nilIface
  | _, _, .ptr a l hl => .ptr a l (h _ _ _ hl)
  | _, _, .slice a l len cap aa cap' hl h1 h2 h3 h4 h5 => .slice a l len cap aa cap' (h _ _ _ hl) h1 h2 h3 h4 h5
  | _, _, .map r l hl => .map r l (h _ _ _ hl)
  | _, _, .func fn a b a' b' h1 h2 => .func fn a b a' b' (VRels.mono h h1) (VRels.mono h h2)
  | _, _, .iface t v v' h1 => .iface t v v' (VRel.mono h h1)
  | _, _, .agg a a' h1 => .agg a a' (VRels.mono h h1)
  | _, _, .tuple a a' h1 => .tuple a a' (VRels.mono h h1)
theorem VRels.mono {φ φ' : Phi} (h : φ.le φ') : ∀ {l l' : List Value}, VRels φ l l' → VRels φ' l l'
  | _, _, .nil => .nil
  | _, _, .cons v v' l l' h1 h2 => .cons v v' l l' (VRel.mono h h1) (VRels.mono h h2)
end
theorem VRels.length {φ : Phi} : ∀ {l l' : List Value}, VRels φ l l' → l.length = l'.length
  | _, _, .nil => rfl
  | _, _, .cons _ _ _ _ _ h => by simp [VRels.length h]
theorem VRels.get {φ : Phi} : ∀ {l l' : List Value}, VRels φ l l' → ∀ (i : Nat) (v : Value), l[i]? = some v → ∃ v', l'[i]? = some v' ∧ VRel φ v v'
  | _, _, .nil, i, v, h => by simp at h
  | _, _, .cons v v' l l' h1 h2, 0, u, h => by
    simp at h; subst h
    exact ⟨v', rfl, h1⟩
  | _, _, .cons v v' l l' h1 h2, i + 1, u, h => by
    simp at h
    obtain ⟨u', h3, h4⟩ := VRels.get h2 i u h
    exact ⟨u', by simpa using h3, h4⟩
theorem VRels.of_get {φ : Phi} : ∀ (l l' : List Value), l.length = l'.length → (∀ (i : Nat) (v : Value), l[i]? = some v → ∃ v', l'[i]? = some v' ∧ VRel φ v v') → VRels φ l l'
  | [], [], _, _ => .nil
  | [], _ :: _, h, _ => by simp at h
  | _ :: _, [], h, _ => by simp at h
  | v :: l, v' :: l', h, hg => by
    refine .cons _ _ _ _ ?_ (VRels.of_get l l' (by simpa using h) fun i u hu => ?_)
    · obtain ⟨u, h1, h2⟩ := hg 0 v rfl
      simp at h1; subst h1; exact h2
    · obtain ⟨u', h1, h2⟩ := hg (i + 1) u (by simpa using hu)
      exact ⟨u', by simpa using h1, h2⟩
theorem VRels.append {φ : Phi} : ∀ {l l' m m' : List Value}, VRels φ l l' → VRels φ m m' → VRels φ (l ++ m) (l' ++ m')
  | _, _, _, _, .nil, h => h
  | _, _, _, _, .cons v v' l l' h1 h2, h => .cons v v' _ _ h1 (VRels.append h2 h)
theorem VRels.take {φ : Phi} {l l' : List Value} (h : VRels φ l l') (n : Nat) : VRels φ (l.take n) (l'.take n) := by
  induction n generalizing l l' with
  | zero => exact .nil
  | succ n ih => cases h with
    | nil => exact .nil
    | cons v v' l l' h1 h2 => exact .cons _ _ _ _ h1 (ih h2)
theorem VRels.drop {φ : Phi} {l l' : List Value} (h : VRels φ l l') (n : Nat) : VRels φ (l.drop n) (l'.drop n) := by
  induction n generalizing l l' with
  | zero => exact h
  | succ n ih => cases h with
    | nil => exact .nil
    | cons v v' l l' h1 h2 => exact ih h2
theorem VRels.map {φ : Phi} {α : Type} (f g : α → Value) : ∀ (l : List α), (∀ x ∈ l, VRel φ (f x) (g x)) → VRels φ (l.map f) (l.map g)
  | [], _ => .nil
  | x :: l, h => .cons _ _ _ _ (h x (by simp)) (VRels.map f g l fun y hy => h y (by simp [hy]))
theorem VRels.over {φ : Phi} {l l' m m' : List Value} (h : VRels φ l l') (k : VRels φ m m') (n : Nat) : VRels φ (over l n m) (over l' n m') := by
  unfold Ab.over
  rw [k.length]
  exact ((h.take n).append k).append (h.drop _)
theorem VRels.self {φ : Phi} : ∀ (l : List Value), (∀ v ∈ l, VRel φ v v) → VRels φ l l
  | [], _ => .nil
  | v :: l, h => .cons _ _ _ _ (h v (by simp)) (VRels.self l fun u hu => h u (by simp [hu]))
theorem VRel.cst {φ : Phi} : ∀ (n : Nat) (v : Value), cstOk n v = true → VRel φ v v
  | _, .bool _, _ => .bool _
  | _, .int _ _, _ => .int _ _
  | _, .string _, _ => .string _
  | _, .pointer none, _ => .nilPtr
  | _, .slice none 0 0, _ => .nilSlice
  | _, .map none, _ => .nilMap
  | _, .nilFunc, _ => .nilFunc
  | _, .nilIface, _ => .nilIface
  | n + 1, .agg a, h => .agg _ _ (VRels.self _ fun v hv => VRel.cst n v (List.all_eq_true.1 (show a.toList.all (cstOk n) = true from h) v hv))
  | n + 1, .tuple a, h => .tuple _ _ (VRels.self _ fun v hv => VRel.cst n v (List.all_eq_true.1 (show a.toList.all (cstOk n) = true from h) v hv))
  | n + 1, .iface _ v, h => .iface _ _ _ (VRel.cst n v h)
  | 0, .agg _, h | 0, .tuple _, h | 0, .iface _ _, h => by simp [cstOk] at h
  | _, .float _ _, h | _, .complex _ _ _, h | _, .chan _, h | _, .func _ _ _, h => by simp [cstOk] at h
  | _, .pointer (some _), h | _, .map (some _), h => by simp [cstOk] at h
  | _, .slice (some _) _ _, h => by simp [cstOk] at h
  | _, .slice none (_ + 1) _, h => by simp [cstOk] at h
  | _, .slice none 0 (_ + 1), h => by simp [cstOk] at h
theorem VRel.oneCell {φ : Phi} {v v' : Value} (h : VRel φ v v') : v'.oneCell' = v.oneCell' := by cases h <;> rfl
theorem VRel.cells {φ : Phi} {v v' : Value} (h : VRel φ v v') : VRels φ v.cells.toList v'.cells.toList := by
  cases h with
  | agg a a' h => exact h
  | _ => exact .cons _ _ _ _ (by constructor <;> assumption) .nil
theorem VRels.oneCell {φ : Phi} : ∀ {l l' : List Value}, VRels φ l l' → l.all Value.oneCell' = true → ∀ v ∈ l', v.oneCell' = true
  | _, _, .nil, _, v, hv => by cases hv
  | _, _, .cons a b l l' h1 h2, h, v, hv => by
    simp only [List.all_cons, Bool.and_eq_true] at h
    rcases List.mem_cons.1 hv with rfl | hv
    · rw [h1.oneCell]; exact h.1
    · exact VRels.oneCell h2 h.2 v hv
inductive MRels (φ : Phi) : List MapEntry → List MapEntry → Prop
  | nil : MRels φ [] []
  | cons (k v v' : Value) (b : Nat) (l l' : List MapEntry) : VRel φ v v' → MRels φ l l' → MRels φ (⟨k, v, b⟩ :: l) (⟨k, v', b⟩ :: l')
theorem MRels.mono {φ φ' : Phi} (h : φ.le φ') : ∀ {l l' : List MapEntry}, MRels φ l l' → MRels φ' l l'
  | _, _, .nil => .nil
  | _, _, .cons k v v' b l l' h1 h2 => .cons k v v' b l l' (h1.mono h) (MRels.mono h h2)
def isMut : Option AObj → Bool
  | none | some (.ro _) => false
  | _ => true
def ORel (X : Prg) (φ : Phi) (w : World) (e : Nat) (l : Loc) : AObj → Prop
  | .ro cs => e = 0 → ∀ i v, cs[i]? = some v → ∃ v', w.cell? ⟨l.c, l.off + i, none⟩ = some v' ∧ VRel φ v v'
  | .own r => e ≤ r.ep ∧ (e = r.ep → l.off = 0 ∧ ∃ arr fr, w.heap[l.c]? = some (.cells arr r.elem fr) ∧ arr.size = l.N ∧ (∃ ty, X.ty r.elem = some ty ∧ l.sz = ty.size) ∧
      (r.str = false → fr.2 ≤ r.frz) ∧ r.cs.length ≤ arr.size ∧ VRels φ r.cs (arr.toList.take r.cs.length))
  | .map es clk => e = 0 ∧ ∃ es', w.heap[l.c]? = some (.map es' clk) ∧ MRels φ es es'.toList
  | .iter s pos => e = 0 ∧ l.off = 0 ∧ w.heap[l.c]? = some (.stringIter s pos)
structure SRel (X : Prg) (φ : Phi) (g : Nat → Option AObj) (w : World) : Prop where
  obj : ∀ b e l, φ b e = some l → ∀ o, g b = some o → ORel X φ w e l o
  lt : ∀ b e l, φ b e = some l → l.c < w.heap.size
  sep : ∀ b e l b' e' l', φ b e = some l → φ b' e' = some l' → b ≠ b' → isMut (g b) = true → l.c ≠ l'.c
def Fresh (φ : Phi) (lo hi : Nat) : Prop := ∀ b e, lo ≤ b → b < hi → φ b e = none
structure Step (φ φ' : Phi) (s s' : St) (w w' : World) : Prop where
  size : s.size ≤ s'.size
  le : φ.le φ'
  new : ∀ b e l, φ' b e = some l → φ b e = some l ∨ (s.size ≤ b ∧ b < s'.size ∧ w.heap.size ≤ l.c) ∨ (∃ e0 l0, φ b e0 = some l0 ∧ isMut (s.get b) = true ∧ (l0.c = l.c ∨ w.heap.size ≤ l.c))
  kind : ∀ b, (b < s.size ∨ s'.size ≤ b) → isMut (s'.get b) = isMut (s.get b)
  os : w'.os = w.os
  tape : w'.tape = w.tape
  output : w'.output = w.output
  wsize : w.heap.size ≤ w'.heap.size
  frm : ∀ c, c < w.heap.size → (∀ b e l, φ b e = some l → l.c = c → isMut (s.get b) = false) → w'.heap[c]? = w.heap[c]?
theorem Step.refl (φ : Phi) (s : St) (w : World) : Step φ φ s s w w :=
  ⟨Nat.le_refl _, fun _ _ _ h => h, fun _ _ _ h => .inl h, fun _ _ => rfl, rfl, rfl, rfl, Nat.le_refl _, fun _ _ _ => rfl⟩
theorem Step.fresh {φ φ' : Phi} {s s' : St} {w w' : World} (h : Step φ φ' s s' w w') {hi : Nat} (hf : Fresh φ s.size hi) : Fresh φ' s'.size hi := by
  intro b e h1 h2
  cases hb : φ' b e with
  | none => rfl
  | some l =>
    exfalso
    have hs := h.size
    rcases h.new b e l hb with h3 | ⟨_, h4, _⟩ | ⟨e0, l0, h3, _⟩
    · rw [hf b e (by omega) h2] at h3; cases h3
    · omega
    · rw [hf b e0 (by omega) h2] at h3; cases h3
theorem Step.trans {φ φ1 φ2 : Phi} {s s1 s2 : St} {w w1 w2 : World} (h : Step φ φ1 s s1 w w1) (k : Step φ1 φ2 s1 s2 w1 w2) (hf : Fresh φ s.size s2.size) : Step φ φ2 s s2 w w2 := by
  have hs1 := h.size
  have hs2 := k.size
  refine ⟨by omega, fun b e l hb => k.le _ _ _ (h.le _ _ _ hb), ?_, ?_, k.os.trans h.os, k.tape.trans h.tape, k.output.trans h.output, Nat.le_trans h.wsize k.wsize, ?_⟩
  · intro b e l hb
    have hw := h.wsize
    rcases k.new b e l hb with h3 | ⟨h3, h4, h5⟩ | ⟨e0, l0, h3, h4, h5⟩
    · rcases h.new b e l h3 with h6 | ⟨h6, h7, h8⟩ | h6
      · exact .inl h6
      · exact .inr (.inl ⟨h6, by omega, h8⟩)
      · exact .inr (.inr h6)
    · exact .inr (.inl ⟨by omega, h4, by omega⟩)
    · rcases h.new b e0 l0 h3 with h6 | ⟨h6, h7, h8⟩ | ⟨e1, l1, h6, h7, h8⟩
      · by_cases hb1 : b < s.size ∨ s1.size ≤ b
        · rw [h.kind b hb1] at h4
          exact .inr (.inr ⟨e0, l0, h6, h4, by rcases h5 with h5 | h5; exact .inl h5; exact .inr (by omega)⟩)
        · exfalso
          rw [hf b e0 (by omega) (by omega)] at h6; cases h6
      · exact .inr (.inl ⟨h6, by omega, by rcases h5 with h5 | h5; rw [← h5]; exact h8; omega⟩)
      · refine .inr (.inr ⟨e1, l1, h6, h7, ?_⟩)
        rcases h5 with h5 | h5
        · rw [← h5]; exact h8
        · exact .inr (by omega)
  · intro b hb
    by_cases h1 : b < s.size ∨ s1.size ≤ b
    · by_cases h2 : b < s1.size ∨ s2.size ≤ b
      · rw [k.kind b h2, h.kind b h1]
      · omega
    · omega
  · intro c hc hm
    have hw := h.wsize
    rw [k.frm c (by omega) ?_, h.frm c hc hm]
    intro b e l hb hl
    rcases h.new b e l hb with h6 | ⟨h6, h7, h8⟩ | ⟨e1, l1, h6, h7, h8⟩
    · by_cases hb1 : b < s.size ∨ s1.size ≤ b
      · rw [h.kind b hb1]; exact hm b e l h6 hl
      · exfalso
        rw [hf b e (by omega) (by omega)] at h6; cases h6
    · omega
    · rcases h8 with h8 | h8
      · have := hm b e1 l1 h6 (by rw [h8]; exact hl)
        rw [this] at h7; cases h7
      · omega
theorem SRel.weaken {X : Prg} {φ : Phi} {g g' : Nat → Option AObj} {w : World} (h : SRel X φ g w) (hg : ∀ b e l, φ b e = some l → g' b = none ∨ g' b = g b) : SRel X φ g' w := by
  refine ⟨fun b e l hb o ho => ?_, h.lt, fun b e l b' e' l' hb hb' hne hm => ?_⟩
  · rcases hg b e l hb with h1 | h1
    · rw [h1] at ho; cases ho
    · exact h.obj b e l hb o (h1 ▸ ho)
  · rcases hg b e l hb with h1 | h1
    · rw [h1] at hm; cases hm
    · exact h.sep b e l b' e' l' hb hb' hne (h1 ▸ hm)
theorem ORel.world {X : Prg} {φ φ' : Phi} {w w' : World} {e : Nat} {l : Loc} {o : AObj} (hle : φ.le φ') (h : ORel X φ w e l o) (hw : w'.heap[l.c]? = w.heap[l.c]?) : ORel X φ' w' e l o := by
  cases o with
  | ro cs =>
    intro he i v hv
    obtain ⟨v', h1, h2⟩ := h he i v hv
    refine ⟨v', ?_, h2.mono hle⟩
    have : w'.cell? ⟨l.c, l.off + i, none⟩ = w.cell? ⟨l.c, l.off + i, none⟩ := by unfold World.cell?; simp only [hw]
    rw [this]; exact h1
  | own r =>
    refine ⟨h.1, fun he => ?_⟩
    obtain ⟨h0, arr, fr, h1, h2, h3, h4, h5, h6⟩ := h.2 he
    exact ⟨h0, arr, fr, by rw [hw]; exact h1, h2, h3, h4, h5, h6.mono hle⟩
  | map es clk =>
    obtain ⟨h0, es', h1, h2⟩ := h
    exact ⟨h0, es', by rw [hw]; exact h1, h2.mono hle⟩
  | iter s pos => exact ⟨h.1, h.2.1, by rw [hw]; exact h.2.2⟩
end Go.Proofs.Yticllcglldbffaa.Ab
end
section
namespace Go.Proofs.Yticllcglldbffaa.Ab
structure Sound (X : Prg) (P : Program) : Prop where
  und : ∀ t ty, X.ty t = some ty → P.underlying t = some ty.und
  info : ∀ t ty, X.ty t = some ty → ∃ i, P.info? t = some i ∧ i.size = ty.size ∧ i.bytes = ty.bytes ∧ i.zero = some ty.zero
  zero : ∀ t ty, X.ty t = some ty → cstOk 2 ty.zero = true ∧ ty.zero.cells.size = ty.size ∧ (ty.agg = false → ty.size = 1)
  held : ∀ t, X.eqs t = true → P.stoodInHeld t = false
  guard : ∀ t, X.eqs t = true → P.eqGuardType P.depth t = false
section
variable {X : Prg} {P : Program} (H : Sound X P) {φ : Phi} (w : World)
include H
theorem run_und {t : Nat} {ty : Ty} (h : X.ty t = some ty) : (underlying t).run P w = .ok ty.und w := run_underlying (H.und t ty h) w
theorem run_ud {t : Nat} {d : TypeDesc} (h : X.und t = some d) : (underlying t).run P w = .ok d w := by
  unfold Prg.und at h
  split at h
  · rename_i ty h1
    cases h
    exact run_und H w h1
  · cases h
theorem run_inf {t : Nat} {ty : Ty} (h : X.ty t = some ty) : ∃ i, (typeInfo t).run P w = .ok i w ∧ i.size = ty.size ∧ i.bytes = ty.bytes ∧ i.zero = some ty.zero := by
  obtain ⟨i, h1, h2⟩ := H.info t ty h
  exact ⟨i, by simp [typeInfo, h1], h2⟩
theorem run_size {t : Nat} {ty : Ty} (h : X.ty t = some ty) : (sizeOf t).run P w = .ok ty.size w := by
  obtain ⟨i, h1, h2, _⟩ := run_inf H w h
  simp [sizeOf, h1, h2]
theorem run_zero {t : Nat} {ty : Ty} (h : X.ty t = some ty) : (zeroValue t).run P w = .ok ty.zero w := by
  obtain ⟨i, h1, _, _, h4⟩ := run_inf H w h
  simp [zeroValue, h1, h4]
theorem run_agg {t : Nat} {ty : Ty} (h : X.ty t = some ty) : (isAgg t).run P w = .ok ty.agg w := by
  have h1 := run_und H w h
  unfold isAgg Ty.agg
  simp only [Sem.run_bind, h1, Result.andThen_ok]
  cases ty.und <;> rfl
theorem part_run {t off : Nat} {cs cs' : Array Value} {v : Value} (h : partv X t cs off = some v) (hr : VRels φ cs.toList cs'.toList) : ∃ v', (part t cs' off).run P w = .ok v' w ∧ VRel φ v v' := by
  unfold partv at h
  split at h
  · rename_i ty hty
    unfold part
    simp only [Sem.run_bind, run_agg H w hty, Result.andThen_ok]
    have hlen := hr.length
    simp only [Array.length_toList] at hlen
    split at h
    · rename_i ha
      split at h
      · cases h
        refine ⟨.agg (cs'.extract off (off + ty.size)), by simp [ha, run_size H w hty], .agg _ _ ?_⟩
        simp only [Array.toList_extract, List.extract_eq_take_drop]
        exact (hr.drop _).take _
      · cases h
    · rename_i ha
      simp only [ha, if_false, Bool.false_eq_true]
      obtain ⟨v', h1, h2⟩ := hr.get off v (by simpa using h)
      refine ⟨v', ?_, h2⟩
      have : cs'[off]? = some v' := by simpa using h1
      simp [this]
  · cases h
end
theorem flat_same {φ : Phi} {k : FK} {x y x' y' : Value} {b : Bool} (h : flat k x y = some b) (hx : VRel φ x x') (hy : VRel φ y y') : x' = x ∧ y' = y := by
  unfold flat at h
  split at h
  · cases hx; cases hy; exact ⟨rfl, rfl⟩
  · cases hx; cases hy; exact ⟨rfl, rfl⟩
  · cases hx; cases hy; exact ⟨rfl, rfl⟩
  · cases h
theorem flats_same {φ : Phi} : ∀ {ks : List FK} {xs ys xs' ys' : List Value} {b : Bool}, flats ks xs ys = some b → VRels φ xs xs' → VRels φ ys ys' → xs' = xs ∧ ys' = ys
  | _, [], [], _, _, _, _, .nil, .nil => ⟨rfl, rfl⟩
  | [], x :: xs, y :: ys, _, _, b, h, _, _ => by simp [flats] at h
  | k :: ks, x :: xs, y :: ys, _, _, b, h, .cons _ x' _ xs' h1 h2, .cons _ y' _ ys' h3 h4 => by
    simp only [flats] at h
    split at h
    · rename_i a c ha hc
      obtain ⟨rfl, rfl⟩ := flat_same ha h1 h3
      obtain ⟨rfl, rfl⟩ := flats_same hc h2 h4
      exact ⟨rfl, rfl⟩
    · cases h
  | [], [], _ :: _, _, _, _, h, _, _ => by simp [flats] at h
  | _ :: _, [], _ :: _, _, _, _, h, _, _ => by simp [flats] at h
  | [], _ :: _, [], _, _, _, h, _, _ => by simp [flats] at h
  | _ :: _, _ :: _, [], _, _, _, h, _, _ => by simp [flats] at h
theorem flats_len : ∀ {ks : List FK} {xs ys : List Value} {b : Bool}, flats ks xs ys = some b → xs.length = ks.length ∧ ys.length = ks.length
  | [], [], [], _, _ => ⟨rfl, rfl⟩
  | k :: ks, x :: xs, y :: ys, b, h => by
    simp only [flats] at h
    split at h
    · rename_i a c ha hc
      have := flats_len hc
      simp [this]
    · cases h
  | [], [], _ :: _, _, h => by simp [flats] at h
  | [], _ :: _, _, _, h => by simp [flats] at h
  | _ :: _, [], _, _, h => by simp [flats] at h
  | _ :: _, _ :: _, [], _, h => by simp [flats] at h
theorem flats_append : ∀ {k1 k2 : List FK} {xs ys : List Value} {b : Bool}, flats (k1 ++ k2) xs ys = some b → ∃ b1 b2, flats k1 (xs.take k1.length) (ys.take k1.length) = some b1 ∧ flats k2 (xs.drop k1.length) (ys.drop k1.length) = some b2 ∧ b = (b1 && b2)
  | [], k2, xs, ys, b, h => ⟨true, b, by simp [flats], by simpa using h, by simp⟩
  | k :: k1, k2, x :: xs, y :: ys, b, h => by
    simp only [List.cons_append, flats] at h
    split at h
    · rename_i a c ha hc
      obtain ⟨b1, b2, h1, h2, rfl⟩ := flats_append hc
      cases h
      exact ⟨a && b1, b2, by simp [flats, ha, h1], by simpa using h2, by simp [Bool.and_assoc]⟩
    · cases h
  | _ :: _, _, [], _, _, h => by simp [flats] at h
  | _ :: _, _, _ :: _, [], _, h => by simp [flats] at h
section
variable {X : Prg} {P : Program} (H : Sound X P) (w : World)
include H
def EqK (X : Prg) (P : Program) (w : World) (d : Nat) : Prop := ∀ t ks, kindsOf X d t = some ks → ∀ D, d ≤ D → ∀ (xs ys : Array Value) off b, flats ks ((xs.toList.drop off).take ks.length) ((ys.toList.drop off).take ks.length) = some b → ∀ ty, X.ty t = some ty → ks.length = ty.size →
  ∃ a c, (part t xs off).run P w = .ok a w ∧ (part t ys off).run P w = .ok c w ∧ (Op.equalIn D t a c).run P w = .ok b w
theorem eqFields_run {d : Nat} (hd : EqK X P w d) (D : Nat) (hD : d ≤ D) (xs ys : Array Value) : ∀ (fs : List Field) (off : Nat) (ks : List FK) (b : Bool), fieldKinds X (kindsOf X d) fs off = some ks → flats ks (xs.toList.drop off) (ys.toList.drop off) = some b → (Op.eqFields D xs ys fs).run P w = .ok b w
  | [], off, ks, b, h, hb => by
    simp only [fieldKinds] at h
    cases h
    have : b = true := by
      generalize xs.toList.drop off = l1 at hb
      generalize ys.toList.drop off = l2 at hb
      cases l1 <;> cases l2 <;> simp [flats] at hb
      exact hb
    subst this
    simp [Op.eqFields]
  | f :: fs, off, ks, b, h, hb => by
    simp only [fieldKinds] at h
    split at h
    · rename_i ty ks1 hty hks
      split at h
      · rename_i hc
        obtain ⟨hn, ho, hl⟩ := hc
        simp only [Option.map_eq_some_iff] at h
        obtain ⟨ks2, h2, rfl⟩ := h
        obtain ⟨b1, b2, q1, q2, rfl⟩ := flats_append hb
        obtain ⟨a, c, p1, p2, p3⟩ := hd _ _ hks D hD xs ys off b1 q1 ty hty hl
        simp only [List.drop_drop] at q2
        have := eqFields_run hd D hD xs ys fs (off + ty.size) ks2 b2 h2 (by rw [← hl]; exact q2)
        simp only [Op.eqFields, if_pos hn, ho, Sem.run_bind, p1, p2, p3, Result.andThen_ok]
        cases b1
        · simp
        · simpa using this
      · cases h
    · cases h
theorem eqItems_run {d : Nat} (hd : EqK X P w d) (D : Nat) (hD : d ≤ D) (xs ys : Array Value) {e : Nat} {te : Ty} {ks : List FK} (hte : X.ty e = some te) (hks : kindsOf X d e = some ks) (hl : ks.length = te.size) : ∀ (n i : Nat) (b : Bool), flats (kreps ks n) (xs.toList.drop (i * te.size)) (ys.toList.drop (i * te.size)) = some b → (Op.eqItems D e te.size xs ys (List.range' i n)).run P w = .ok b w
  | 0, i, b, hb => by
    have : b = true := by
      simp only [kreps] at hb
      generalize xs.toList.drop (i * te.size) = l1 at hb
      generalize ys.toList.drop (i * te.size) = l2 at hb
      cases l1 <;> cases l2 <;> simp [flats] at hb
      exact hb
    subst this
    simp [Op.eqItems]
  | n + 1, i, b, hb => by
    obtain ⟨b1, b2, q1, q2, rfl⟩ := flats_append (k1 := ks) (k2 := kreps ks n) hb
    obtain ⟨a, c, p1, p2, p3⟩ := hd _ _ hks D hD xs ys (i * te.size) b1 q1 te hte hl
    simp only [List.drop_drop] at q2
    have := eqItems_run hd D hD xs ys hte hks hl n (i + 1) b2 (by rw [Nat.succ_mul, ← hl] at *; exact q2)
    simp only [List.range'_succ, Op.eqItems, Sem.run_bind, p1, p2, p3, Result.andThen_ok]
    cases b1
    · simp
    · simpa using this
theorem eqAgg {d : Nat} (hd : EqK X P w d) {t : Nat} {ks : List FK} (hk : kindsOf X (d + 1) t = some ks) {D : Nat} (hD : d ≤ D) {xs ys : Array Value} {b : Bool} (hb : flats ks xs.toList ys.toList = some b) {ty : Ty} (hty : X.ty t = some ty) (ha : ty.agg = true) : (Op.equalIn (D + 1) t (.agg xs) (.agg ys)).run P w = .ok b w := by
  simp only [kindsOf, hty] at hk
  split at hk
  · rename_i hu; simp [Ty.agg, hu] at ha
  · rename_i hu; simp [Ty.agg, hu] at ha
  · rename_i hu; simp [Ty.agg, hu] at ha
  · rename_i fs hu
    split at hk
    · rename_i he
      have hP := H.und _ _ hty
      rw [hu] at hP
      have hf : P.fieldsOf t = fs := by simp [Program.fieldsOf, hP]
      rw [run_equalIn_struct w D t xs ys (by rw [hf]; exact hP) (H.held t he), hf]
      exact eqFields_run H w hd D hD xs ys fs.toList 0 ks b hk (by simpa using hb)
    · cases hk
  · rename_i n e hu
    split at hk
    · rename_i te kse hte hkse
      split at hk
      · rename_i hc
        cases hk
        have hP := H.und _ _ hty
        rw [hu] at hP
        obtain ⟨i, hi, hs, _⟩ := H.info _ _ hte
        rw [run_equalIn_array w D xs ys hP hi]
        have hcell : P.cellsOf e = te.size := by simp [Program.cellsOf, hi, hs]
        rw [hcell, List.range_eq_range']
        exact eqItems_run H w hd D hD xs ys hte hkse hc.2 n 0 b (by simpa using hb)
      · cases hk
    · cases hk
  · cases hk
theorem eqK_all : ∀ d, EqK X P w d
  | 0 => fun t ks hk => by simp [kindsOf] at hk
  | d + 1 => by
    intro t ks hk D hD xs ys off b hb ty hty hl
    obtain ⟨D, rfl⟩ : ∃ D', D = D' + 1 := ⟨D - 1, by omega⟩
    have hlen := flats_len hb
    simp only [List.length_take, List.length_drop, Array.length_toList] at hlen
    by_cases ha : ty.agg = true
    · refine ⟨.agg (xs.extract off (off + ty.size)), .agg (ys.extract off (off + ty.size)), ?_, ?_, ?_⟩
      · unfold part; simp [Sem.run_bind, run_agg H w hty, ha, run_size H w hty]
      · unfold part; simp [Sem.run_bind, run_agg H w hty, ha, run_size H w hty]
      · refine eqAgg H w (eqK_all d) hk (by omega) ?_ hty ha
        simp only [Array.toList_extract, List.extract_eq_take_drop, Nat.add_sub_cancel_left]
        rw [← hl]; exact hb
    · have ha' : ty.agg = false := by simpa using ha
      have hsz := (H.zero _ _ hty).2.2 ha'
      have hu := H.und _ _ hty
      have hx : off < xs.size := by omega
      have hy : off < ys.size := by omega
      have g1 : (xs.toList.drop off).take 1 = [xs[off]] := by
        rw [List.drop_eq_getElem_cons (by simpa using hx)]; simp
      have g2 : (ys.toList.drop off).take 1 = [ys[off]] := by
        rw [List.drop_eq_getElem_cons (by simpa using hy)]; simp
      rw [hl, hsz, g1, g2] at hb
      refine ⟨xs[off], ys[off], ?_, ?_, ?_⟩
      · unfold part; simp [Sem.run_bind, run_agg H w hty, ha', hx]
      · unfold part; simp [Sem.run_bind, run_agg H w hty, ha', hy]
      · simp only [kindsOf, hty] at hk
        generalize xs[off] = x at hb
        generalize ys[off] = y at hb
        have one : ∀ k, ks = [k] → flat k x y = some b := by
          intro k hk'
          subst hk'
          simp only [flats] at hb
          split at hb
          · rename_i b1 b2 e1 e2; cases e2; rw [e1]; simpa using hb
          · cases hb
        split at hk
        · rename_i hd; cases hk; rw [hd] at hu
          have := one _ rfl
          unfold flat at this
          split at this
          all_goals first | (cases this; done) | skip
          all_goals (rename_i hq; cases hq)
          cases this
          simp [Op.equalIn, run_underlying hu]
        · rename_i k hd; cases hk; rw [hd] at hu
          have := one _ rfl
          unfold flat at this
          split at this
          all_goals first | (cases this; done) | skip
          all_goals (rename_i hq; cases hq)
          split at this
          · rename_i hc; cases this
            obtain ⟨rfl, rfl⟩ := hc
            simp [Op.equalIn, run_underlying hu]
          · cases this
        · rename_i hd; cases hk; rw [hd] at hu
          have := one _ rfl
          unfold flat at this
          split at this
          all_goals first | (cases this; done) | skip
          all_goals (rename_i hq; cases hq)
          cases this
          rw [run_equalIn_string w D t _ _ hu, ByteArray.toList_eq, ByteArray.toList_eq]
        · rename_i hd; simp [Ty.agg, hd] at ha'
        · rename_i hd; simp [Ty.agg, hd] at ha'
        · cases hk
end
theorem byteArray_toList (s : ByteArray) : s.toList = s.data.toList := by
  exact ByteArray.toList_eq s
theorem strLt_eq : ∀ (x y : List UInt8), Op.bytesLess x y = strLt x y
  | _, [] => by simp [Op.bytesLess, strLt]
  | [], _ :: _ => by simp [Op.bytesLess, strLt]
  | a :: x, b :: y => by simp [Op.bytesLess, strLt, strLt_eq x y]
theorem strOp_run {P : Program} (w : World) {op : BinOp} {x y : ByteArray} {v : Value} (h : strOp op x y = some v) : (Op.stringOp op x y).run P w = .ok v w := by
  unfold strOp at h
  unfold Op.stringOp
  simp only [byteArray_toList, strLt_eq]
  split at h <;> first
    | (cases h; done)
    | (cases h; rfl)
    | skip
  split at h
  · cases h
    rename_i hl
    have hb : ¬ (((x.size + y.size : Nat) : Int) > IntKind.i64.max) := by simp only [IntKind.max, IntKind.signed, IntKind.bits]; simp; omega
    rw [if_neg hb]
    simp only [Sem.run_pure]
    congr 2
  · cases h
theorem intOp_run {P : Program} (w : World) {op : BinOp} {k : IntKind} {x y : Int} {v : Value} {t : TypeId} (h : intOp op k x y = some v) :
    (binOp op t (.int k x) (.int k y)).run P w = .ok v w := by
  unfold intOp at h
  split at h <;> first
    | (cases h; simp [binOp, Op.intArith]; done)
    | skip
  all_goals first
    | (split at h <;> first | (cases h; done) | (cases h; rename_i hy; simp [binOp, Op.intDiv, hy]; done))
    | skip
  all_goals first
    | (simp only [bitsI, Option.map_some, Option.some.injEq] at h; subst h; simp [binOp, Op.intBits]; done)
    | (cases h; done)
    | skip
  unfold cmpI at h
  split at h <;> simp at h <;> (try subst h) <;> first
    | (simp [binOp, Op.intCmp]; done)
    | (exfalso; simp_all; done)
section
variable {X : Prg} {P : Program} (H : Sound X P) {φ : Phi} (w : World)
include H
theorem eqv0_run (d : Nat) {t : Nat} {x y x' y' : Value} {b : Bool} (h : eqv0 X t x y = some b) (hx : VRel φ x x') (hy : VRel φ y y') : (Op.equalIn (d + 1) t x' y').run P w = .ok b w := by
  unfold eqv0 at h
  split at h
  · cases hx; cases hy
    split at h
    · rename_i hd; cases h
      simp [Op.equalIn, run_ud H w hd]
    · cases h
  · cases hx
    split at h
    · rename_i hd; cases h
      cases hy <;> simp [Op.equalIn, run_ud H w hd]
    · cases h
  · cases hx; cases hy
    split at h
    · rename_i hd; cases h
      simp [Op.equalIn, run_ud H w hd]
    · cases h
  · split at h
    · rename_i hd
      split at h
      · rename_i te hte
        split at h
        · rename_i hc; cases h
          obtain ⟨hz, rfl⟩ := hc
          cases hx with | ptr a l hl =>
          cases hy with | ptr a l' hl' =>
          rw [hl] at hl'; cases hl'
          simp only [Op.equalIn, Sem.run_bind, run_ud H w hd, Result.andThen_ok, run_size H w hte]
          simp [hz, sameAddr]
        · cases h
      · cases h
    · cases h
  · split at h
    · rename_i hd; cases h
      cases hx
      cases hy <;> simp [Op.equalIn, run_ud H w hd]
    · cases h
  · split at h
    · rename_i hd; cases h
      cases hx; cases hy; simp [Op.equalIn, run_ud H w hd]
    · cases h
  · split at h
    · rename_i hd; cases h
      cases hx
      cases hy <;> simp [Op.equalIn, run_ud H w hd]
    · cases h
  · split at h
    · rename_i hd; cases h
      cases hx; cases hy; simp [Op.equalIn, run_ud H w hd]
    · cases h
  · split at h
    · rename_i hd; cases h
      cases hx; cases hy; simp [Op.equalIn, run_ud H w hd]
    · cases h
  · split at h
    · rename_i hd; cases h
      cases hx; cases hy; simp [Op.equalIn, run_ud H w hd]
    · cases h
  · split at h
    · rename_i hd; cases h
      cases hx; cases hy; simp [Op.equalIn, run_ud H w hd]
    · cases h
  · cases h
theorem eqv_run {t : Nat} {x y x' y' : Value} {b : Bool} (h : eqv X t x y = some b) (hx : VRel φ x x') (hy : VRel φ y y') : (Op.equal t x' y').run P w = .ok b w := by
  unfold eqv at h
  split at h
  · split at h
    · rename_i ty ks hty hks
      split at h
      · rename_i hagg
        cases hx with | agg xs xs' h1 =>
        cases hy with | agg ys ys' h2 =>
        obtain ⟨e1, e2⟩ := flats_same h h1 h2
        have e1 := Array.toList_inj.1 e1
        have e2 := Array.toList_inj.1 e2
        subst e1; subst e2
        exact eqAgg H w (eqK_all H w 7) hks (by omega) h hty hagg
      · cases h
    · cases h
  · exact eqv0_run H w 9999 h hx hy
omit H in
theorem kinds_eqs {d t : Nat} {ks : List FK} {ty : Ty} (h : kindsOf X d t = some ks) (hty : X.ty t = some ty) (ha : ty.agg = true) : X.eqs t = true := by
  cases d with
  | zero => simp [kindsOf] at h
  | succ d =>
    simp only [kindsOf, hty] at h
    unfold Ty.agg at ha
    repeat' split at h
    all_goals first | (cases h; done) | assumption | (rename_i hc; exact hc.1) | simp_all
theorem eqGuard_run {t : Nat} {x y : Operand} {a b a' b' : Value} {c : Bool} {op : BinOp} (h : eqv X t a b = some c) (hx : VRel φ a a') (hy : VRel φ b b') : (eqGuard op t x y a' b').run P w = .ok () w := by
  unfold eqGuard
  unfold eqv at h
  split at h
  · split at h
    · rename_i ty ks hty hks
      split at h
      · rename_i hagg
        cases hx with | agg xs xs' h1 =>
        cases hy with | agg ys ys' h2 =>
        have hg := H.guard _ (kinds_eqs hks hty hagg)
        cases op <;> simp [hg]
      · cases h
    · cases h
  · unfold eqv0 at h
    split at h <;> first
      | (cases h; done)
      | (cases hx <;> cases hy <;> simp <;> done)
omit H in
theorem eqGuard_int (op : BinOp) (t : TypeId) (x y : Operand) (k k' : IntKind) (a b : Int) : (eqGuard op t x y (.int k a) (.int k' b)).run P w = .ok () w := by
  unfold eqGuard
  simp
omit H in
theorem eqGuard_str (op : BinOp) (t : TypeId) (x y : Operand) (a b : ByteArray) : (eqGuard op t x y (.string a) (.string b)).run P w = .ok () w := by
  unfold eqGuard
  simp
theorem binOp_run {t : Nat} {x y : Operand} {a b a' b' v : Value} {op : BinOp} (h : binOpv X op t a b = some v) (hx : VRel φ a a') (hy : VRel φ b b') :
    ∃ v', (do eqGuard op t x y a' b'; binOp op t a' b' : Sem Value).run P w = .ok v' w ∧ VRel φ v v' := by
  unfold binOpv at h
  split at h
  · cases hx; cases hy
    split at h
    · cases h
    · rename_i hb; cases h
      refine ⟨_, ?_, .int _ _⟩
      simp only [Sem.run_bind, eqGuard_int w, Result.andThen_ok]
      simp [binOp, Op.shift, hb]
  · cases hx; cases hy
    split at h
    · cases h
    · rename_i hb; cases h
      refine ⟨_, ?_, .int _ _⟩
      simp only [Sem.run_bind, eqGuard_int w, Result.andThen_ok]
      simp [binOp, Op.shift, hb]
  · cases hx; cases hy
    split at h
    · rename_i hk; subst hk
      refine ⟨v, ?_, ?_⟩
      · simp only [Sem.run_bind, eqGuard_int w, Result.andThen_ok]
        exact intOp_run w h
      · unfold intOp at h
        repeat' split at h
        all_goals first
          | (cases h; constructor; done)
          | (simp only [Option.map_eq_some_iff] at h; obtain ⟨_, _, rfl⟩ := h; constructor; done)
          | (cases h; done)
    · cases h
  · cases hx; cases hy
    refine ⟨v, ?_, ?_⟩
    · simp only [Sem.run_bind, eqGuard_str w, Result.andThen_ok]
      have : ∀ op a b, (binOp op t (.string a) (.string b)) = Op.stringOp op a b := by intro op a b; cases op <;> rfl
      rw [this]
      exact strOp_run w h
    · unfold strOp at h
      repeat' split at h
      all_goals first
        | (cases h; constructor; done)
        | (cases h; done)
  · simp only [Option.map_eq_some_iff] at h
    obtain ⟨c, h, rfl⟩ := h
    refine ⟨.bool c, ?_, .bool _⟩
    simp only [Sem.run_bind, eqGuard_run H w h hx hy, Result.andThen_ok]
    have hr := eqv_run H w h hx hy
    rename_i n1 n2 n3 n4
    cases hx <;> cases hy <;> first
      | (simp only [binOp, Sem.run_bind, hr, Result.andThen_ok]; rfl)
      | exact (n3 _ _ _ _ rfl rfl).elim
      | exact (n4 _ _ rfl rfl).elim
      | (exfalso; simp_all; done)
      | (exfalso; simp [eqv] at h; done)
      | skip
  · simp only [Option.map_eq_some_iff] at h
    obtain ⟨c, h, rfl⟩ := h
    refine ⟨.bool (!c), ?_, .bool _⟩
    simp only [Sem.run_bind, eqGuard_run H w h hx hy, Result.andThen_ok]
    have hr := eqv_run H w h hx hy
    rename_i n1 n2 n3 n4
    cases hx <;> cases hy <;> first
      | (simp only [binOp, Sem.run_bind, hr, Result.andThen_ok]; rfl)
      | exact (n3 _ _ _ _ rfl rfl).elim
      | exact (n4 _ _ rfl rfl).elim
      | (exfalso; simp_all; done)
      | (exfalso; simp [eqv] at h; done)
      | skip
  · cases h
omit H in
theorem unOp_run {x x' v : Value} {op : UnOp} (h : unOpv op x = some v) (hx : VRel φ x x') : ∃ v', (Op.unary op x').run P w = .ok v' w ∧ VRel φ v v' := by
  unfold unOpv at h
  split at h
  · cases hx; cases h
    exact ⟨_, by simp [Op.unary, Op.intArith], .int _ _⟩
  · cases hx
    simp only [bitsI, Option.map_some, Option.some.injEq] at h
    subst h
    exact ⟨_, by simp [Op.unary, Op.intBits], .int _ _⟩
  · cases hx; cases h
    exact ⟨_, by simp [Op.unary], .bool _⟩
  · cases h
end
end Go.Proofs.Yticllcglldbffaa.Ab
end
section
namespace Go.Proofs.Yticllcglldbffaa.Ab
theorem add_none (c o n : Nat) : (⟨c, o, none⟩ : Addr).add n = ⟨c, o + n, none⟩ := by unfold Addr.add; split <;> simp_all
theorem VRel.fwd {φ : Phi} {a : Addr} {l : Loc} (n : Nat) (h : φ a.block (ep a) = some l) : VRel φ (.pointer (some (Addr.fwd a n))) (.pointer (some ⟨l.c, l.off + a.off + n, none⟩)) := by
  have := VRel.ptr (φ := φ) (Addr.fwd a n) l h
  simpa [Addr.fwd, Nat.add_assoc] using this
section
variable {X : Prg} {P : Program} (H : Sound X P) {φ : Phi} (w : World)
theorem nilCheck_run {x x' v : Value} (h : nilCheckv x = some v) (hx : VRel φ x x') : x' ≠ .pointer none ∧ x' ≠ .nilIface ∧ x' ≠ .nilFunc ∧ (∀ m f c, x' ≠ .func (.method m) f c) ∧ VRel φ v x' := by
  unfold nilCheckv at h
  split at h
  · cases h
    refine ⟨?_, ?_, ?_, ?_, hx⟩ <;> cases hx <;> intros <;> simp
  · cases h
    refine ⟨?_, ?_, ?_, ?_, hx⟩ <;> cases hx <;> intros <;> simp
  · cases h
include H
theorem fieldAddr_run {t f : Nat} {x x' v : Value} (h : fieldAddrv X t x f = some v) (hx : VRel φ x x') : ∃ v', (Instr.fieldAt t x' f).run P w = .ok v' w ∧ VRel φ v v' := by
  unfold fieldAddrv at h
  split at h
  · rename_i fs a hu
    cases hx with | ptr a l hl =>
    split at h
    · rename_i fd hfd
      split at h
      · rename_i ty hty
        split at h
        · rename_i hsz; cases h
          refine ⟨_, ?_, VRel.fwd fd.offset hl⟩
          simp only [Instr.fieldAt, Sem.run_bind, run_ud H w hu, Result.andThen_ok, hfd]
          simp [Instr.sureAddr, fieldPlace, run_size H w hty, hsz, add_none]
        · cases h
      · cases h
    · cases h
  · cases h
theorem field_run {t f : Nat} {x x' v : Value} (h : fieldv X t x f = some v) (hx : VRel φ x x') : ∃ v', (Instr.field t x' f).run P w = .ok v' w ∧ VRel φ v v' := by
  unfold fieldv at h
  split at h
  · rename_i fs cs hu
    cases hx with | agg a a' ha =>
    split at h
    · rename_i fd hfd
      obtain ⟨v', h1, h2⟩ := part_run H w h ha
      refine ⟨v', ?_, h2⟩
      simp only [Instr.field, Sem.run_bind, run_ud H w hu, Result.andThen_ok, hfd]
      simp [asAgg, h1]
    · cases h
  · cases h
theorem indexAddr_run {t : Nat} {x x' i i' v : Value} (h : indexAddrv X t x i = some v) (hx : VRel φ x x') (hi : VRel φ i i') : ∃ v', (Instr.indexAt t x' i').run P w = .ok v' w ∧ VRel φ v v' := by
  unfold indexAddrv at h
  split at h
  · rename_i n e a k j hu
    cases hx with | ptr a l hl =>
    cases hi
    split at h
    · rename_i te hte
      split at h
      · rename_i hc; cases h
        refine ⟨_, ?_, VRel.fwd _ hl⟩
        simp [Instr.indexAt, asIntOf, run_ud H w hu, Instr.sureAddr, hc.1, hc.2.1, run_size H w hte, add_none]
      · cases h
    · cases h
  · rename_i e a len cap k j hu
    cases hx with | slice a l len cap aa cap' hl h1 h2 h3 h4 h5 =>
    cases hi
    split at h
    · rename_i te hte
      split at h
      · rename_i hc; cases h
        have hcap : cap' ≠ 0 := by omega
        have hco : aa = ⟨l.c, l.off + a.off, none⟩ := by rcases h1 with h1 | h1; exact h1; exact absurd h1 hcap
        subst hco
        refine ⟨_, ?_, VRel.fwd _ hl⟩
        simp [Instr.indexAt, asIntOf, run_ud H w hu, hc.1, hc.2.1, run_size H w hte, add_none]
      · cases h
    · cases h
  · cases h
theorem index_run {t : Nat} {x x' i i' v : Value} (h : indexv X t x i = some v) (hx : VRel φ x x') (hi : VRel φ i i') : ∃ v', (Instr.index t x' i').run P w = .ok v' w ∧ VRel φ v v' := by
  unfold indexv at h
  split at h
  · rename_i n e a k j hu
    cases hx with | agg a a' ha =>
    cases hi
    split at h
    · rename_i te hte
      split at h
      · rename_i hc
        obtain ⟨v', h1, h2⟩ := part_run H w h ha
        refine ⟨v', ?_, h2⟩
        simp [Instr.index, asIntOf, run_ud H w hu, hc.1, hc.2, run_size H w hte, h1]
      · cases h
    · cases h
  · rename_i b k j hu
    cases hx; cases hi
    split at h
    · rename_i hc
      simp only [Option.map_eq_some_iff] at h
      obtain ⟨c, hc1, rfl⟩ := h
      refine ⟨_, ?_, .int _ _⟩
      have hlt : j.toNat < b.size := by omega
      have hb : b[j.toNat]? = some c := by
        rw [List.getElem?_eq_some_iff] at hc1
        obtain ⟨h1, h2⟩ := hc1
        rw [getElem?_pos b j.toNat hlt]
        congr 1
      simp [Instr.index, asIntOf, run_ud H w hu, hc.1, hb]
    · cases h
  · cases h
omit H in
theorem fill_rel {place : Nat → Option (Nat × Nat)} : ∀ (ps ps' : List (Nat × Value)) (cs cs' r : Array Value), ps.map (·.1) = ps'.map (·.1) → VRels φ (ps.map (·.2)) (ps'.map (·.2)) → VRels φ cs.toList cs'.toList →
    Instr.fill place cs ps = some r → ∃ r', Instr.fill place cs' ps' = some r' ∧ VRels φ r.toList r'.toList
  | [], [], cs, cs', r, _, _, h, hf => by
    simp only [Instr.fill, Option.some.injEq] at hf
    subst hf
    exact ⟨cs', rfl, h⟩
  | (i, v) :: ps, (j, v') :: ps', cs, cs', r, hn, hv, h, hf => by
    simp only [List.map_cons, List.cons.injEq] at hn
    obtain ⟨rfl, hn⟩ := hn
    simp only [List.map_cons] at hv
    cases hv with | cons _ _ _ _ h1 h2 =>
    simp only [Instr.fill] at hf ⊢
    split at hf
    · cases hf
    · rename_i off size hp
      have hc := h1.cells
      have hl := hc.length
      have hcl := h.length
      simp only [Array.length_toList] at hl hcl
      split at hf
      · cases hf
      · rename_i hsz
        rw [hl, hcl] at hsz
        rw [if_neg hsz]
        refine fill_rel ps ps' _ _ r hn h2 ?_ hf
        have key : ∀ (us us' : List Value) (k : Nat) (c c' : Array Value), VRels φ us us' → VRels φ c.toList c'.toList →
            VRels φ ((us.zipIdx k).foldl (fun cs (c, j) => cs.setIfInBounds (off + j) c) c).toList ((us'.zipIdx k).foldl (fun cs (c, j) => cs.setIfInBounds (off + j) c) c').toList := by
          intro us
          induction us with
          | nil => intro us' k c c' hu hcc; cases hu; exact hcc
          | cons u us ih =>
            intro us' k c c' hu hcc
            cases hu with | cons _ u' _ us' hu1 hu2 =>
            simp only [List.zipIdx_cons, List.foldl_cons]
            refine ih _ _ _ _ hu2 ?_
            simp only [Array.toList_setIfInBounds]
            refine VRels.of_get _ _ (by simp [hcc.length]) fun m x hm => ?_
            rw [List.getElem?_set] at hm ⊢
            have := hcc.length
            split at hm
            · rename_i he
              split at hm
              · rename_i hlt
                simp only [Option.some.injEq] at hm
                subst hm
                exact ⟨u', by rw [if_pos he, if_pos (by omega)], hu1⟩
              · cases hm
            · rename_i he
              rw [if_neg he]
              exact hcc.get m x hm
        have := key v.cells.toList v'.cells.toList 0 cs cs' hc h
        rw [← Array.foldl_toList, ← Array.foldl_toList, Array.toList_zipIdx, Array.toList_zipIdx]
        exact this
  | [], _ :: _, _, _, _, hn, _, _, _ => by simp at hn
  | _ :: _, [], _, _, _, hn, _, _, _ => by simp at hn
theorem places_run : ∀ (fs : List Field) (l : List (Nat × Nat)), places X fs = some l → (fs.mapM fun f => do pure (f.offset, ← sizeOf f.type) : Sem (List (Nat × Nat))).run P w = .ok l w
  | [], l, h => by simp only [places, Option.some.injEq] at h; subst h; rfl
  | f :: fs, l, h => by
    simp only [places] at h
    split at h
    · rename_i ty r hty hr
      cases h
      have ih := places_run fs r hr
      simp only [List.mapM_cons, Sem.run_bind, run_size H w hty, Result.andThen_ok, Sem.run_pure, ih]
    · cases h
theorem build_run {t : Nat} {ps : List (Nat × Value)} {ps' : Array (Nat × Value)} {v : Value} (h : buildv X t ps = some v) (hn : ps.map (·.1) = ps'.toList.map (·.1)) (hv : VRels φ (ps.map (·.2)) (ps'.toList.map (·.2))) :
    ∃ v', (Instr.build t ps').run P w = .ok v' w ∧ VRel φ v v' := by
  unfold buildv at h
  split at h
  · cases h
  · rename_i ty hty
    have hz : VRels φ ty.zero.cells.toList ty.zero.cells.toList := (VRel.cst 2 ty.zero (H.zero _ _ hty).1).cells
    split at h
    · rename_i fs hu
      split at h
      · rename_i l hl
        simp only [Option.map_eq_some_iff] at h
        obtain ⟨r, hr, rfl⟩ := h
        obtain ⟨r', h1, h2⟩ := fill_rel (φ := φ) _ _ _ _ _ hn hv hz hr
        refine ⟨.agg r', ?_, .agg _ _ h2⟩
        have hu' := run_und H w hty
        rw [hu] at hu'
        have hp := places_run H w _ _ hl
        have hp' : (fs.mapM fun f => do pure (f.offset, ← sizeOf f.type) : Sem (Array (Nat × Nat))).run P w = .ok l.toArray w := by
          rw [Array.mapM_eq_mapM_toList]
          simp only [Sem.run_map, hp, Result.andThen_ok]
        simp only [Instr.build, Sem.run_bind, run_zero H w hty, Result.andThen_ok, hu', hp']
        simp [h1]
      · cases h
    · rename_i n e hu
      split at h
      · rename_i te hte
        simp only [Option.map_eq_some_iff] at h
        obtain ⟨r, hr, rfl⟩ := h
        obtain ⟨r', h1, h2⟩ := fill_rel (φ := φ) _ _ _ _ _ hn hv hz hr
        refine ⟨.agg r', ?_, .agg _ _ h2⟩
        have hu' := run_und H w hty
        rw [hu] at hu'
        simp only [Instr.build, Sem.run_bind, run_zero H w hty, Result.andThen_ok, hu', run_size H w hte]
        simp [h1]
      · cases h
    · cases h
omit H in
theorem len_slice {a : Option Addr} {n c : Nat} {x' : Value} (h : VRel φ (.slice a n c) x') : ∃ b c', x' = .slice b n c' := by
  cases h with
  | nilSlice => exact ⟨_, _, rfl⟩
  | slice => exact ⟨_, _, rfl⟩
omit H in
theorem min_run : ∀ (r r' : List Value) (x x' v : Value), foldv min2v x r = some v → VRel φ x x' → VRels φ r r' → ∃ v', (r'.foldlM Builtin.min2 x').run P w = .ok v' w ∧ VRel φ v v'
  | [], _, x, x', v, h, hx, .nil => by
    simp only [foldv, Option.some.injEq] at h
    subst h
    exact ⟨x', rfl, hx⟩
  | y :: r, _, x, x', v, h, hx, .cons _ y' _ r' hy hr => by
    simp only [foldv] at h
    split at h
    · rename_i z hz
      unfold min2v at hz
      split at hz
      · cases hx; cases hy; cases hz
        obtain ⟨v', h1, h2⟩ := min_run r r' _ _ v h (.int _ _) hr
        exact ⟨v', by simpa [Builtin.min2] using h1, h2⟩
      · cases hz
    · cases h
omit H in
theorem max_run : ∀ (r r' : List Value) (x x' v : Value), foldv max2v x r = some v → VRel φ x x' → VRels φ r r' → ∃ v', (r'.foldlM Builtin.max2 x').run P w = .ok v' w ∧ VRel φ v v'
  | [], _, x, x', v, h, hx, .nil => by
    simp only [foldv, Option.some.injEq] at h
    subst h
    exact ⟨x', rfl, hx⟩
  | y :: r, _, x, x', v, h, hx, .cons _ y' _ r' hy hr => by
    simp only [foldv] at h
    split at h
    · rename_i z hz
      unfold max2v at hz
      split at hz
      · cases hx; cases hy; cases hz
        obtain ⟨v', h1, h2⟩ := max_run r r' _ _ v h (.int _ _) hr
        exact ⟨v', by simpa [Builtin.max2] using h1, h2⟩
      · cases hz
    · cases h
end
inductive OptRel (φ : Phi) : Option Value → Option Value → Prop
  | none : OptRel φ none none
  | some (v v' : Value) : VRel φ v v' → OptRel φ (some v) (some v')
section
variable {X : Prg} {P : Program} (H : Sound X P) {φ : Phi} (w : World)
theorem sb_run {v v' : Value} {d y y' n : Nat} (code : BoundsCode) (h : bnd (some v) d y = some n) (hv : VRel φ v v') (hy : y ≤ y') : (Instr.sliceBound v' y' code).run P w = .ok n w ∧ n ≤ y := by
  unfold bnd at h
  split at h
  · rename_i h0; cases h0
  · rename_i k i h0
    cases h0
    cases hv
    split at h
    · rename_i hc; cases h
      have h2 : i ≤ (y' : Int) := by omega
      refine ⟨by simp [Instr.sliceBound, asIntOf, hc.1, h2], by omega⟩
    · cases h
  · cases h
theorem sbs_run {lo hi lo' hi' : Option Value} {len y cap' h l : Nat} (isS : Bool) (hlo : OptRel φ lo lo') (hhi : OptRel φ hi hi') (h1 : bnd hi len y = some h) (h2 : bnd lo 0 h = some l) (hy : y ≤ cap') :
    (Instr.sliceBounds isS len cap' lo' hi' none).run P w = .ok (l, h, cap') w ∧ l ≤ h ∧ (h ≤ y ∨ h = len) := by
  have hl : (match lo' with | some v => Instr.sliceBound v h .sliceB | none => (pure 0 : Sem Nat)).run P w = .ok l w ∧ l ≤ h := by
    cases hlo with
    | none => simp only [bnd, Option.some.injEq] at h2; subst h2; exact ⟨rfl, by omega⟩
    | some v v' hv => exact sb_run w _ h2 hv (Nat.le_refl _)
  unfold Instr.sliceBounds
  cases hhi with
  | none =>
    simp only [bnd, Option.some.injEq] at h1
    subst h1
    refine ⟨?_, hl.2, .inr rfl⟩
    have := hl.1
    cases hlo with
    | none => simp_all
    | some v v' hv => simp_all
  | some v v' hv =>
    have hh := sb_run (P := P) w (if isS then .sliceAcap else .sliceAlen) h1 hv hy
    refine ⟨?_, hl.2, .inl hh.2⟩
    have := hl.1
    have h3 := hh.1
    cases hlo with
    | none => simp_all
    | some v v' hv => simp_all
include H
theorem slice_run {t : Nat} {x x' v : Value} {lo hi mx lo' hi' mx' : Option Value} (h : sliceOp X t x lo hi mx = some v) (hx : VRel φ x x') (hlo : OptRel φ lo lo') (hhi : OptRel φ hi hi') (hmx : OptRel φ mx mx') :
    ∃ v', (Instr.sliceAt t x' lo' hi' mx').run P w = .ok v' w ∧ VRel φ v v' := by
  unfold sliceOp at h
  split at h
  · cases h
  · rename_i ty hty
    have hu := run_und H w hty
    split at h
    · -- a string
      rename_i b he
      rw [he] at hu
      cases hx
      split at h
      · cases h
      · rename_i hm
        cases hmx with
        | some => simp at hm
        | none =>
        split at h
        · rename_i hh hhe
          split at h
          · rename_i l hle
            cases h
            obtain ⟨h1, _, _⟩ := sbs_run (P := P) w false hlo hhi hhe hle (Nat.le_refl _)
            refine ⟨_, ?_, .string _⟩
            simp [Instr.sliceAt, Instr.slice, hu, h1]
          · cases h
        · cases h
    · -- nil
      rename_i e len cap he
      rw [he] at hu
      split at h
      · cases h
      · rename_i hlen
        cases hx with | nilSlice =>
        split at h
        · rename_i m hh l hm1 hh1 hl1
          split at h
          · cases h
          · rename_i hmh
            split at h
            · rename_i hte
              cases h
              obtain ⟨te, hte⟩ := Option.isSome_iff_exists.1 hte
              refine ⟨.slice none 0 0, ?_, .nilSlice⟩
              cases hmx with
              | none =>
                have hh0 : hh = 0 := by
                  cases hhi with
                  | none => simpa [bnd] using hh1.symm
                  | some v v' hv => have := (sb_run (P := P) w .index hh1 hv (Nat.le_refl _)).2; omega
                subst hh0
                have hl0 : l = 0 := by
                  cases hlo with
                  | none => simpa [bnd] using hl1.symm
                  | some v v' hv => have := (sb_run (P := P) w .index hl1 hv (Nat.le_refl _)).2; omega
                subst hl0
                obtain ⟨h1, _, _⟩ := sbs_run (P := P) w true hlo hhi hh1 hl1 (Nat.le_refl _)
                simp [Instr.sliceAt, Instr.slice, hu, h1, run_size H w hte]
              | some m0 m0' hm0 =>
                have hm2 : bnd (some m0) 0 0 = some m := by simpa using hm1
                obtain ⟨h1, h2⟩ := sb_run (P := P) w .slice3Acap hm2 hm0 (Nat.le_refl _)
                obtain rfl : m = 0 := by omega
                cases hhi with
                | none => simp at hmh
                | some v v' hv =>
                  obtain ⟨h3, h4⟩ := sb_run (P := P) w .slice3B hh1 hv (Nat.le_refl _)
                  obtain rfl : hh = 0 := by omega
                  cases hlo with
                  | none =>
                    obtain rfl : l = 0 := by simpa [bnd] using hl1.symm
                    simp [Instr.sliceAt, Instr.slice, Instr.sliceBounds, hu, h1, h3, run_size H w hte]
                  | some u u' hu' =>
                    obtain ⟨h5, h6⟩ := sb_run (P := P) w .slice3C hl1 hu' (Nat.le_refl _)
                    obtain rfl : l = 0 := by omega
                    simp [Instr.sliceAt, Instr.slice, Instr.sliceBounds, hu, h1, h3, h5, run_size H w hte]
            · cases h
        · cases h
    · -- a slice
      rename_i e a len cap he
      rw [he] at hu
      cases hx with | slice a loc len cap aa cap' hl h1 h2 h3 h4 h5 =>
      split at h
      · cases h
      · rename_i te hte
        have fw : ∀ (n : Nat), φ (Addr.fwd a n).block (ep (Addr.fwd a n)) = some loc := fun n => hl
        split at h
        · -- three indices
          rename_i k m
          split at h
          · cases h
          · rename_i hhs
            split at h
            · rename_i hmc
              split at h
              · rename_i hh hh1
                split at h
                · rename_i l hl1
                  cases h
                  cases hmx with | some _ _ hm0 =>
                  cases hm0
                  cases hhi with
                  | none => simp at hhs
                  | some hv hv' hvr =>
                  have hm3 : m ≤ (cap' : Int) := by omega
                  obtain ⟨g1, g2⟩ := sb_run (P := P) w .slice3B hh1 hvr (Nat.le_refl _)
                  have hm' : (Instr.sliceBound (.int k m) cap' .slice3Acap).run P w = .ok m.toNat w := by simp [Instr.sliceBound, asIntOf, hmc.1, hm3]
                  have hb : (Instr.sliceBounds true len cap' lo' (some hv') (some (.int k m))).run P w = .ok (l, hh, m.toNat) w ∧ l ≤ hh := by
                    cases hlo with
                    | none =>
                      obtain rfl : l = 0 := by simpa [bnd] using hl1.symm
                      exact ⟨by simp [Instr.sliceBounds, hm', g1], by omega⟩
                    | some u u' hu' =>
                      obtain ⟨g3, g4⟩ := sb_run (P := P) w .slice3C hl1 hu' (Nat.le_refl _)
                      exact ⟨by simp [Instr.sliceBounds, hm', g1, g3], g4⟩
                  refine ⟨.slice (some (if m.toNat = l then aa else aa.add (l * te.size))) (hh - l) (m.toNat - l), ?_, ?_⟩
                  · simp only [Instr.sliceAt, Instr.slice, hu, Sem.run_bind, Result.andThen_ok, hb.1, run_size H w hte, Sem.run_pure]
                    split <;> simp [add_none]
                  · have hx1 := hb.2
                    split
                    · rename_i hml
                      refine VRel.slice (Addr.fwd a (l * te.size)) loc _ _ _ _ (fw _) (.inr (by omega)) (by omega) ?_ ?_ ?_ <;> unfold capX <;> intros <;> omega
                    · rename_i hml
                      have hc0 : aa = ⟨loc.c, loc.off + a.off, none⟩ := by rcases h1 with h1 | h1; exact h1; omega
                      refine VRel.slice (Addr.fwd a (l * te.size)) loc _ _ _ _ (fw _) (.inl ?_) (by omega) ?_ ?_ ?_
                      · rw [hc0, add_none]; simp only [Addr.fwd]; congr 1; omega
                      all_goals (unfold capX; intros; omega)
                · cases h
              · cases h
            · cases h
        · cases h
        · -- two indices
          split at h
          · rename_i hh hh1
            split at h
            · rename_i l hl1
              cases h
              cases hmx with | none =>
              obtain ⟨g1, g2, g3⟩ := sbs_run (P := P) w true hlo hhi hh1 hl1 h4
              refine ⟨.slice (some (if cap' = l then aa else aa.add (l * te.size))) (hh - l) (cap' - l), ?_, ?_⟩
              · simp only [Instr.sliceAt, Instr.slice, hu, Sem.run_bind, Result.andThen_ok, g1, run_size H w hte, Sem.run_pure]
                split <;> simp [add_none]
              · have hlc : hh ≤ cap' := by omega
                have key : ∀ co : Addr, (co = ⟨loc.c, loc.off + (a.off + l * te.size), none⟩ ∨ cap' - l = 0) → VRel φ (.slice (some (Addr.fwd a (l * te.size))) (hh - l) (if cap % 2 = 1 then capX (cap / 2 - l) else capO (cap / 2 - l))) (.slice (some co) (hh - l) (cap' - l)) := by
                  intro co hco
                  refine VRel.slice (Addr.fwd a (l * te.size)) loc _ _ _ _ (fw _) hco (by omega) ?_ ?_ ?_
                  · intro ho
                    split at ho
                    · rename_i hodd
                      rw [if_pos hodd]; have := h3 hodd; unfold capX at *; omega
                    · unfold capO at ho; omega
                  · split
                    · rename_i hodd; have := h3 hodd; unfold capX; omega
                    · unfold capO; omega
                  · intro hev hoff
                    split at hev
                    · unfold capX at hev; omega
                    · rename_i hodd
                      have := h5 (by omega) (by simp only [Addr.fwd] at hoff; omega)
                      exact Nat.le_trans (Nat.mul_le_mul_right _ (Nat.sub_le _ _)) this
                by_cases hcl : cap' = l
                · rw [if_pos hcl]; exact key _ (.inr (by omega))
                · rw [if_neg hcl]
                  refine key _ (.inl ?_)
                  have hc0 : aa = ⟨loc.c, loc.off + a.off, none⟩ := by rcases h1 with h1 | h1; exact h1; omega
                  rw [hc0, add_none]; congr 1; omega
            · cases h
          · cases h
    · -- an array
      rename_i n e a he
      rw [he] at hu
      cases hx with | ptr a loc hl =>
      split at h
      · cases h
      · rename_i hm
        cases hmx with
        | some => simp at hm
        | none =>
        split at h
        · rename_i te hh hte hh1
          split at h
          · rename_i l hl1
            cases h
            obtain ⟨g1, g2, g3⟩ := sbs_run (P := P) w false hlo hhi hh1 hl1 (Nat.le_refl _)
            refine ⟨.slice (some (if n = l then ⟨loc.c, loc.off + a.off, none⟩ else ⟨loc.c, loc.off + a.off + l * te.size, none⟩)) (hh - l) (n - l), ?_, ?_⟩
            · simp only [Instr.sliceAt, hu, Sem.run_bind, Result.andThen_ok, Instr.sureAddr, Sem.run_pure, g1, run_size H w hte]
              split <;> simp [add_none]
            · split
              · refine VRel.slice (Addr.fwd a (l * te.size)) loc _ _ _ _ hl (.inr (by omega)) (by omega) ?_ ?_ ?_ <;> unfold capX <;> intros <;> omega
              · refine VRel.slice (Addr.fwd a (l * te.size)) loc _ _ _ _ hl (.inl ?_) (by omega) ?_ ?_ ?_
                · simp only [Addr.fwd]; congr 1; omega
                all_goals (unfold capX; intros; omega)
          · cases h
        · cases h
    · cases h
end
end Go.Proofs.Yticllcglldbffaa.Ab
end
section
namespace Go.Proofs.Yticllcglldbffaa.Ab
def Phi.ext (φ : Phi) (b e : Nat) (l : Loc) : Phi := fun b' e' => if b' = b ∧ e' = e then some l else φ b' e'
theorem Phi.ext_same (φ : Phi) (b e : Nat) (l : Loc) : φ.ext b e l b e = some l := by simp [Phi.ext]
theorem Phi.ext_of {φ : Phi} {b e : Nat} {l : Loc} {b' e' : Nat} {l' : Loc} (h : φ.ext b e l b' e' = some l') : (b' = b ∧ e' = e ∧ l' = l) ∨ φ b' e' = some l' := by
  unfold Phi.ext at h
  split at h
  · rename_i hc; cases h; exact .inl ⟨hc.1, hc.2, rfl⟩
  · exact .inr h
theorem Phi.le_ext {φ : Phi} {b e : Nat} {l : Loc} (h : φ b e = none) : φ.le (φ.ext b e l) := by
  intro b' e' l' h'
  unfold Phi.ext
  split
  · rename_i hc; rw [hc.1, hc.2, h] at h'; cases h'
  · exact h'
section
variable {X : Prg} {P : Program} {φ : Phi} {s : St} {w : World}
theorem rd_rel (hs : SRel X φ s.get w) {a : Addr} {n : Nat} {cs : List Value} {l : Loc} (h : s.rd a n = some cs) (hl : φ a.block (ep a) = some l) :
    cs.length = n ∧ ∃ cs', VRels φ cs cs' ∧ ∀ i v', cs'[i]? = some v' → w.cell? ⟨l.c, l.off + a.off + i, none⟩ = some v' := by
  unfold St.rd at h
  split at h
  · rename_i all hb
    split at h
    · rename_i hc; cases h
      have ho := hs.obj _ _ _ hl _ hb hc.1
      refine ⟨by simp; omega, (List.range n).map fun i => (w.cell? ⟨l.c, l.off + a.off + i, none⟩).getD undef, VRels.of_get _ _ (by simp; omega) fun i v hv => ?_, fun i v' hv => ?_⟩
      · rw [List.getElem?_take] at hv
        split at hv
        · rename_i hi
          rw [List.getElem?_drop] at hv
          obtain ⟨v', h1, h2⟩ := ho _ _ hv
          refine ⟨v', ?_, h2⟩
          rw [← Nat.add_assoc] at h1
          simp [hi, h1]
        · cases hv
      · simp only [List.getElem?_map, Option.map_eq_some_iff] at hv
        obtain ⟨j, hj, rfl⟩ := hv
        obtain ⟨hj1, hj2⟩ := List.getElem?_eq_some_iff.1 hj
        simp at hj1 hj2
        subst hj2
        have : i < all.length - a.off := by omega
        obtain ⟨v', h1, h2⟩ := ho (a.off + i) all[a.off + i] (by simp)
        rw [← Nat.add_assoc] at h1
        simp [h1]
    · cases h
  · rename_i r hb
    split at h
    · rename_i hc; cases h
      obtain ⟨h0, arr, fr, h1, h2, h3, h4, h5, h6⟩ := (hs.obj _ _ _ hl _ hb).2 hc.1
      refine ⟨by simp; omega, ((arr.toList.take r.cs.length).drop a.off).take n, (h6.drop _).take _, fun i v' hv => ?_⟩
      rw [List.getElem?_take] at hv
      split at hv
      · rw [List.getElem?_drop, List.getElem?_take] at hv
        split at hv
        · simp only [World.cell?, h1, h0, Nat.zero_add]
          simpa using hv
        · cases hv
      · cases hv
    · cases h
  · cases h
theorem load_run (hs : SRel X φ s.get w) {a : Addr} {n : Nat} {cs : List Value} {l : Loc} (h : s.rd a n = some cs) (hl : φ a.block (ep a) = some l) :
    ∃ cs', VRels φ cs cs' ∧ (∀ w' : World, w'.heap = w.heap → (loadCells ⟨l.c, l.off + a.off, none⟩ n).run P w' = .ok cs'.toArray w') ∧ ∀ i v', cs'[i]? = some v' → w.cell? ⟨l.c, l.off + a.off + i, none⟩ = some v' := by
  obtain ⟨h1, cs', h2, h3⟩ := rd_rel hs h hl
  refine ⟨cs', h2, fun w' hw => ?_, h3⟩
  have hlen := h2.length
  have := run_loadCells_list (P := P) w' ⟨l.c, l.off + a.off, none⟩ cs' (fun j v hv => by
    have h4 := h3 j v hv
    rw [add_none]
    unfold World.cell? at h4 ⊢
    rw [hw]; exact h4)
  rwa [← hlen, h1] at this
theorem upd_own (hs : SRel X φ s.get w) {b : Nat} {r : Row} {l : Loc} {arr arr2 : Array Value} {fr : Nat × Nat} {cs2 : List Value} (hb : s.get b = some (.own r)) (hl : φ b r.ep = some l) (ha : w.heap[l.c]? = some (.cells arr r.elem fr))
    (hsz : arr2.size = arr.size) (hln : cs2.length ≤ arr2.size) (hv : VRels φ cs2 (arr2.toList.take cs2.length)) :
    SRel X φ (s.set b (.own { r with cs := cs2 })).get (w.setRow l.c arr2) ∧ Step φ φ s (s.set b (.own { r with cs := cs2 })) w (w.setRow l.c arr2) := by
  have hm : isMut (s.get b) = true := by rw [hb]; rfl
  obtain ⟨h0, arr', fr', h1, h2, h3, h4, h5, h6⟩ := (hs.obj _ _ _ hl _ hb).2 rfl
  rw [ha] at h1; cases h1
  constructor
  · refine ⟨fun b' e' l' hb' o ho => ?_, fun b' e' l' hb' => ?_, fun b1 e1 l1 b2 e2 l2 k1 k2 hne hmu => ?_⟩
    · rw [St.get_set hb] at ho
      split at ho
      · rename_i heq; subst heq
        cases ho
        refine ⟨(hs.obj _ _ _ hb' _ hb).1, fun he => ?_⟩
        simp only at he
        subst he
        rw [hl] at hb'; cases hb'
        exact ⟨h0, arr2, fr, setRow_heap _ _ _ _ _ _ ha, by rw [hsz]; exact h2, h3, h4, hln, hv⟩
      · rename_i hne
        exact (hs.obj _ _ _ hb' _ ho).world (fun _ _ _ h => h) (setRow_other _ _ _ _ (fun h => (hs.sep _ _ _ _ _ _ hl hb' hne hm) h.symm))
    · rw [setRow_size]; exact hs.lt _ _ _ hb'
    · refine hs.sep _ _ _ _ _ _ k1 k2 hne ?_
      rw [St.get_set hb] at hmu
      split at hmu
      · rename_i heq; subst heq; exact hm
      · exact hmu
  · refine ⟨Nat.le_refl _, fun _ _ _ h => h, fun _ _ _ h => .inl h, fun b' _ => ?_, rfl, rfl, rfl, by rw [setRow_size]; exact Nat.le_refl _, fun c _ hc => ?_⟩
    · rw [St.get_set hb]
      split
      · rename_i heq; subst heq; rw [hm]; rfl
      · rfl
    · refine setRow_other _ _ _ _ fun h => ?_
      have := hc b r.ep l hl h.symm
      rw [hm] at this; cases this
theorem store_run (hs : SRel X φ s.get w) {a : Addr} {vs vs' : List Value} {s' : St} {l : Loc} (h : s.wr a vs = some s') (hl : φ a.block (ep a) = some l) (hv : VRels φ vs vs') :
    ∃ w', (storeCells ⟨l.c, l.off + a.off, none⟩ vs').run P w = .ok () w' ∧ SRel X φ s'.get w' ∧ Step φ φ s s' w w' := by
  unfold St.wr at h
  split at h
  · rename_i r hb
    split at h
    · rename_i hc
      obtain ⟨hc1, hc2, hc3, hc4, hc5⟩ := hc
      cases h
      rw [hc1] at hl
      obtain ⟨h0, arr, fr, h1, h2, h3, h4, h5, h6⟩ := (hs.obj _ _ _ hl _ hb).2 rfl
      have hlen := hv.length
      have hf := h4 hc4
      have hst := run_storeCells_atF P l.c a.off r.elem fr vs' 0 arr w h1 (by omega) (by omega) (hv.oneCell hc5)
      simp only [Nat.add_zero] at hst
      refine ⟨_, by rw [h0, Nat.zero_add]; exact hst, ?_⟩
      refine upd_own hs hb hl h1 (by simp; omega) (by simp [over]; omega) ?_
      have e : (List.take a.off arr.toList ++ vs' ++ List.drop (a.off + vs'.length) arr.toList).toArray.toList.take (over r.cs a.off vs).length = over (arr.toList.take r.cs.length) a.off vs' := by
        have e1 : (over r.cs a.off vs).length = r.cs.length := by simp [over]; omega
        rw [e1]
        unfold over
        simp only [List.take_append, List.length_take, List.length_append, Array.length_toList, List.take_take, List.drop_take]
        congr 1
        · congr 1
          · congr 1; omega
          · rw [List.take_of_length_le]; omega
        · congr 1; omega
      rw [e]
      exact h6.over hv _
    · cases h
  · cases h
theorem new_run (hs : SRel X φ s.get w) {o : AObj} {o' : Obj} {w' : World} {l : Loc} (hf : Fresh φ s.size (s.size + 1)) (hw : w'.heap = w.heap.push o') (h1 : w'.os = w.os) (h2 : w'.tape = w.tape) (h3 : w'.output = w.output)
    (hl : l.c = w.heap.size) (ho : ORel X (φ.ext s.size 0 l) w' 0 l o) :
    SRel X (φ.ext s.size 0 l) (s.push o).get w' ∧ Step φ (φ.ext s.size 0 l) s (s.push o) w w' := by
  have hn : φ s.size 0 = none := hf _ _ (Nat.le_refl _) (by omega)
  have hle := Phi.le_ext (l := l) hn
  have old : ∀ c, c < w.heap.size → w'.heap[c]? = w.heap[c]? := by
    intro c hc
    rw [hw, Array.getElem?_push, if_neg (by omega)]
  constructor
  · refine ⟨fun b' e' l' hb' o1 ho1 => ?_, fun b' e' l' hb' => ?_, fun b1 e1 l1 b2 e2 l2 k1 k2 hne hmu => ?_⟩
    · rw [St.get_push] at ho1
      rcases Phi.ext_of hb' with ⟨rfl, rfl, rfl⟩ | hb2
      · rw [if_pos rfl] at ho1; cases ho1; exact ho
      · split at ho1
        · rename_i heq; rw [← heq, hf _ _ (Nat.le_refl _) (by omega)] at hb2; cases hb2
        · exact (hs.obj _ _ _ hb2 _ ho1).world hle (old _ (hs.lt _ _ _ hb2))
    · rw [hw, Array.size_push]
      rcases Phi.ext_of hb' with ⟨rfl, rfl, rfl⟩ | hb2
      · omega
      · have := hs.lt _ _ _ hb2; omega
    · rcases Phi.ext_of k1 with ⟨rfl, rfl, rfl⟩ | q1
      · rcases Phi.ext_of k2 with ⟨rfl, rfl, rfl⟩ | q2
        · exact absurd rfl hne
        · have := hs.lt _ _ _ q2; omega
      · rcases Phi.ext_of k2 with ⟨rfl, rfl, rfl⟩ | q2
        · have := hs.lt _ _ _ q1; omega
        · refine hs.sep _ _ _ _ _ _ q1 q2 hne ?_
          rw [St.get_push] at hmu
          split at hmu
          · rename_i heq; rw [← heq, hf _ _ (Nat.le_refl _) (by omega)] at q1; cases q1
          · exact hmu
  · refine ⟨by simp [St.size_push], hle, fun b e l1 hb => ?_, fun b hb => ?_, h1, h2, h3, by rw [hw, Array.size_push]; omega, fun c hc _ => old c hc⟩
    · rcases Phi.ext_of hb with ⟨rfl, rfl, rfl⟩ | hb
      · exact .inr (.inl ⟨Nat.le_refl _, by simp [St.size_push], by omega⟩)
      · exact .inl hb
    · rw [St.get_push, if_neg]
      simp only [St.size_push] at hb
      omega
theorem grow_run (hs : SRel X φ s.get w) {b : Nat} {r : Row} {l l2 : Loc} {w' : World} {cs2 : List Value} (hb : s.get b = some (.own r)) (hl : φ b r.ep = some l) (h1 : w'.os = w.os) (h2 : w'.tape = w.tape) (h3 : w'.output = w.output)
    (hsz : w.heap.size ≤ w'.heap.size) (hc2 : l2.c < w'.heap.size) (hc : l2.c = l.c ∨ w.heap.size ≤ l2.c) (hold : ∀ c, c < w.heap.size → c ≠ l.c → w'.heap[c]? = w.heap[c]?)
    (ho : ORel X (φ.ext b (r.ep + 1) l2) w' (r.ep + 1) l2 (.own { r with cs := cs2, ep := r.ep + 1 })) :
    SRel X (φ.ext b (r.ep + 1) l2) (s.set b (.own { r with cs := cs2, ep := r.ep + 1 })).get w' ∧ Step φ (φ.ext b (r.ep + 1) l2) s (s.set b (.own { r with cs := cs2, ep := r.ep + 1 })) w w' := by
  have hm : isMut (s.get b) = true := by rw [hb]; rfl
  have hn : φ b (r.ep + 1) = none := by
    cases h : φ b (r.ep + 1) with
    | none => rfl
    | some l' => have := (hs.obj _ _ _ h _ hb).1; omega
  have hle := Phi.le_ext (l := l2) hn
  have hlc := hs.lt _ _ _ hl
  constructor
  · refine ⟨fun b' e' l' hb' o1 ho1 => ?_, fun b' e' l' hb' => ?_, fun b1 e1 l1 b2 e2 l3 k1 k2 hne hmu => ?_⟩
    · rw [St.get_set hb] at ho1
      rcases Phi.ext_of hb' with ⟨rfl, rfl, rfl⟩ | hb2
      · rw [if_pos rfl] at ho1; cases ho1; exact ho
      · split at ho1
        · rename_i heq; subst heq
          cases ho1
          have := (hs.obj _ _ _ hb2 _ hb).1
          exact ⟨by simp only; omega, fun he => by simp only at he; omega⟩
        · rename_i hne
          exact (hs.obj _ _ _ hb2 _ ho1).world hle (hold _ (hs.lt _ _ _ hb2) (fun h => (hs.sep _ _ _ _ _ _ hl hb2 hne hm) h.symm))
    · rcases Phi.ext_of hb' with ⟨rfl, rfl, rfl⟩ | hb2
      · exact hc2
      · have := hs.lt _ _ _ hb2; omega
    · have hmu' : isMut (s.get b1) = true := by
        rw [St.get_set hb] at hmu
        split at hmu
        · rename_i heq; subst heq; exact hm
        · exact hmu
      rcases Phi.ext_of k1 with ⟨rfl, rfl, rfl⟩ | q1
      · rcases Phi.ext_of k2 with ⟨rfl, rfl, rfl⟩ | q2
        · exact absurd rfl hne
        · have := hs.lt _ _ _ q2
          have := hs.sep _ _ _ _ _ _ hl q2 hne hm
          rcases hc with hc | hc <;> omega
      · rcases Phi.ext_of k2 with ⟨rfl, rfl, rfl⟩ | q2
        · have := hs.lt _ _ _ q1
          have := hs.sep _ _ _ _ _ _ q1 hl hne hmu'
          rcases hc with hc | hc <;> omega
        · exact hs.sep _ _ _ _ _ _ q1 q2 hne hmu'
  · refine ⟨Nat.le_refl _, hle, fun b' e l1 hb' => ?_, fun b' _ => ?_, h1, h2, h3, hsz, fun c hcc hcm => ?_⟩
    · rcases Phi.ext_of hb' with ⟨rfl, rfl, rfl⟩ | hb'
      · refine .inr (.inr ⟨r.ep, l, hl, hm, ?_⟩)
        rcases hc with hc | hc
        · exact .inl hc.symm
        · exact .inr hc
      · exact .inl hb'
    · rw [St.get_set hb]
      split
      · rename_i heq; subst heq; rw [hm]; rfl
      · rfl
    · refine hold c hcc fun h => ?_
      have := hcm b r.ep l hl h.symm
      rw [hm] at this; cases this
theorem upd_obj (hs : SRel X φ s.get w) {b : Nat} {o o1 : AObj} {o' : Obj} {l : Loc} (hb : s.get b = some o) (hl : φ b 0 = some l) (hm : isMut (some o) = true) (hm1 : isMut (some o1) = true) (hne : ∀ e l', φ b e = some l' → e = 0)
    (ho : ORel X φ { w with heap := w.heap.setIfInBounds l.c o' } 0 l o1) :
    SRel X φ (s.set b o1).get { w with heap := w.heap.setIfInBounds l.c o' } ∧ Step φ φ s (s.set b o1) w { w with heap := w.heap.setIfInBounds l.c o' } := by
  have old : ∀ c, c ≠ l.c → (w.heap.setIfInBounds l.c o')[c]? = w.heap[c]? := by
    intro c hc
    rw [Array.getElem?_setIfInBounds, if_neg (fun h => hc h.symm)]
  constructor
  · refine ⟨fun b' e' l' hb' o2 ho2 => ?_, fun b' e' l' hb' => ?_, fun b1 e1 l1 b2 e2 l2 k1 k2 hne hmu => ?_⟩
    · rw [St.get_set hb] at ho2
      split at ho2
      · rename_i heq; subst heq
        cases ho2
        have := hne _ _ hb'
        subst this
        rw [hl] at hb'; cases hb'
        exact ho
      · rename_i hne
        exact (hs.obj _ _ _ hb' _ ho2).world (fun _ _ _ h => h) (old _ (fun h => (hs.sep _ _ _ _ _ _ hl hb' hne (by rw [hb]; exact hm)) h.symm))
    · simp only [Array.size_setIfInBounds]; exact hs.lt _ _ _ hb'
    · refine hs.sep _ _ _ _ _ _ k1 k2 hne ?_
      rw [St.get_set hb] at hmu
      split at hmu
      · rename_i heq; subst heq; rw [hb]; exact hm
      · exact hmu
  · refine ⟨Nat.le_refl _, fun _ _ _ h => h, fun _ _ _ h => .inl h, fun b' _ => ?_, rfl, rfl, rfl, by simp, fun c _ hc => ?_⟩
    · rw [St.get_set hb]
      split
      · rename_i heq; subst heq; rw [hb, hm1, hm]
      · rfl
    · refine old c fun h => ?_
      have := hc b 0 l hl h.symm
      rw [hb, hm] at this; cases this
end
end Go.Proofs.Yticllcglldbffaa.Ab
end
