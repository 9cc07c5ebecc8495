/- The evaluator: a deterministic reading of the loaded code over a store of its own. Definitions alone. -/
import Derived.WalkKit
import Derived.KernelRfl
namespace Go.Proofs.Ytndedkpcfjnecaa.Ab

/-! ### A map from numbers, as a tree -/
inductive Tr (α : Type) where
  | nil
  | node (o : Option α) (l r : Tr α)

def Tr.get {α : Type} : Tr α → Nat → Option α
  | .nil, _ => none
  | .node o l r, i => if i = 0 then o else if i % 2 = 1 then l.get (i / 2) else r.get ((i - 1) / 2)

def Tr.setF {α : Type} : Nat → Tr α → Nat → α → Tr α
  | 0, t, _, _ => t
  | n + 1, .nil, i, v => if i = 0 then .node (some v) .nil .nil else if i % 2 = 1 then .node none (setF n .nil (i / 2) v) .nil else .node none .nil (setF n .nil ((i - 1) / 2) v)
  | n + 1, .node o l r, i, v => if i = 0 then .node (some v) l r else if i % 2 = 1 then .node o (setF n l (i / 2) v) r else .node o l (setF n r ((i - 1) / 2) v)
def Tr.set {α : Type} (t : Tr α) (i : Nat) (v : α) : Tr α := t.setF (i + 1) i v

theorem Tr.get_nil {α : Type} (i : Nat) : (Tr.nil : Tr α).get i = none := rfl
theorem Tr.get_setF {α : Type} : ∀ (n : Nat) (t : Tr α) (i j : Nat) (v : α), i < n → (t.setF n i v).get j = if i = j then some v else t.get j := by
  intro n
  induction n with
  | zero => intro t i j v h; omega
  | succ n ih =>
    intro t i j v h
    have e1 : i ≠ 0 → i % 2 = 1 → j ≠ 0 → j % 2 = 1 → (i / 2 = j / 2 ↔ i = j) := by intros; omega
    have e2 : i ≠ 0 → ¬ i % 2 = 1 → j ≠ 0 → ¬ j % 2 = 1 → ((i - 1) / 2 = (j - 1) / 2 ↔ i = j) := by intros; omega
    cases t with
    | nil =>
      simp only [Tr.setF, Tr.get_nil]
      by_cases hi : i = 0
      · subst hi
        rw [if_pos rfl]
        by_cases hj : j = 0
        · subst hj; simp [Tr.get]
        · have hj' : 0 ≠ j := fun h => hj h.symm
          simp only [Tr.get, if_neg hj, if_neg hj']; split <;> rfl
      · rw [if_neg hi]
        by_cases hi2 : i % 2 = 1
        · rw [if_pos hi2]
          by_cases hj : j = 0
          · subst hj; simp [Tr.get, hi]
          · by_cases hj2 : j % 2 = 1
            · simp only [Tr.get, if_neg hj, if_pos hj2]
              rw [ih _ _ _ _ (by omega)]
              simp only [e1 hi hi2 hj hj2, Tr.get_nil]
            · have : i ≠ j := fun h => hj2 (h ▸ hi2)
              simp [Tr.get, hj, hj2, this]
        · rw [if_neg hi2]
          by_cases hj : j = 0
          · subst hj; simp [Tr.get, hi]
          · by_cases hj2 : j % 2 = 1
            · have : i ≠ j := fun h => hi2 (h ▸ hj2)
              simp [Tr.get, hj, hj2, this]
            · simp only [Tr.get, if_neg hj, if_neg hj2]
              rw [ih _ _ _ _ (by omega)]
              simp only [e2 hi hi2 hj hj2, Tr.get_nil]
    | node o l r =>
      simp only [Tr.setF]
      by_cases hi : i = 0
      · subst hi
        rw [if_pos rfl]
        by_cases hj : j = 0
        · subst hj; simp [Tr.get]
        · have hj' : 0 ≠ j := fun h => hj h.symm
          simp [Tr.get, hj, hj']
      · rw [if_neg hi]
        by_cases hi2 : i % 2 = 1
        · rw [if_pos hi2]
          by_cases hj : j = 0
          · subst hj; simp [Tr.get, hi]
          · by_cases hj2 : j % 2 = 1
            · simp only [Tr.get, if_neg hj, if_pos hj2]
              rw [ih _ _ _ _ (by omega)]
              simp only [e1 hi hi2 hj hj2]
            · have : i ≠ j := fun h => hj2 (h ▸ hi2)
              simp [Tr.get, hj, hj2, this]
        · rw [if_neg hi2]
          by_cases hj : j = 0
          · subst hj; simp [Tr.get, hi]
          · by_cases hj2 : j % 2 = 1
            · have : i ≠ j := fun h => hi2 (h ▸ hj2)
              simp [Tr.get, hj, hj2, this]
            · simp only [Tr.get, if_neg hj, if_neg hj2]
              rw [ih _ _ _ _ (by omega)]
              simp only [e2 hi hi2 hj hj2]
theorem Tr.get_set {α : Type} (t : Tr α) (i j : Nat) (v : α) : (t.set i v).get j = if i = j then some v else t.get j := Tr.get_setF _ _ _ _ _ (Nat.lt_succ_self i)

/-! ### Frames and stores -/
structure Env where
  tr : Tr Value
def Env.get (ρ : Env) (i : Nat) : Value := (ρ.tr.get i).getD undef
def Env.set (ρ : Env) (i : Nat) (v : Value) : Env := ⟨ρ.tr.set i v⟩
def Env.put (ρ : Env) (d : Option Nat) (v : Value) : Env := match d with | some i => ρ.set i v | none => ρ
def Env.fill : Nat → List Value → Env → Env
  | _, [], ρ => ρ
  | i, v :: vs, ρ => Env.fill (i + 1) vs (ρ.set i v)
def Env.of (args : List Value) : Env := Env.fill 0 args ⟨.nil⟩
theorem Env.get_set (ρ : Env) (i j : Nat) (v : Value) : (ρ.set i v).get j = if i = j then v else ρ.get j := by
  unfold Env.get Env.set
  rw [Tr.get_set]
  split <;> rfl
theorem Env.get_nil (i : Nat) : (Env.mk .nil).get i = undef := rfl
def evo (ρ : Env) : Operand → Value
  | .tmp t => ρ.get t
  | .const v => v
  | .global g => .pointer (some ⟨g, 0, none⟩)
  | .func f => .func (.func f) #[] #[]

/-- A row of the run's own: it may grow; 'ep' counts how often it may have moved. -/
structure Row where
  cs : List Value
  elem : TypeId
  ep : Nat
  frz : Nat
  str : Bool
inductive AObj where
  | ro (cs : List Value)
  | own (r : Row)
  | map (es : List MapEntry) (clock : Nat)
  | iter (s : ByteArray) (pos : Nat)
structure St where
  size : Nat
  tr : Tr AObj
def St.get (s : St) (b : Nat) : Option AObj := if b < s.size then s.tr.get b else none
def St.set (s : St) (b : Nat) (o : AObj) : St := ⟨s.size, s.tr.set b o⟩
def St.push (s : St) (o : AObj) : St := ⟨s.size + 1, s.tr.set s.size o⟩
theorem St.lt_of_get {s : St} {b : Nat} {o : AObj} (h : s.get b = some o) : b < s.size := by
  unfold St.get at h
  split at h
  · assumption
  · cases h
theorem St.get_ge {s : St} {b : Nat} (h : s.size ≤ b) : s.get b = none := by
  unfold St.get
  rw [if_neg (by omega)]
theorem St.get_set {s : St} {b : Nat} {o0 : AObj} (h : s.get b = some o0) (c : Nat) (o : AObj) : (s.set b o).get c = if b = c then some o else s.get c := by
  have := St.lt_of_get h
  unfold St.get St.set
  simp only [Tr.get_set]
  split
  · split
    · rfl
    · rfl
  · split
    · omega
    · rfl
theorem St.get_push (s : St) (c : Nat) (o : AObj) : (s.push o).get c = if s.size = c then some o else s.get c := by
  unfold St.get St.push
  simp only [Tr.get_set]
  by_cases h : s.size = c
  · subst h; simp
  · simp only [if_neg h]
    by_cases h1 : c < s.size
    · rw [if_pos (by omega), if_pos h1]
    · rw [if_neg (by omega), if_neg h1]
theorem St.size_set (s : St) (b : Nat) (o : AObj) : (s.set b o).size = s.size := rfl
theorem St.size_push (s : St) (o : AObj) : (s.push o).size = s.size + 1 := rfl

def ep (a : Addr) : Nat := a.spot.getD 0
def St.rd (s : St) (a : Addr) (n : Nat) : Option (List Value) :=
  match s.get a.block with
  | some (.ro cs) => if ep a = 0 ∧ a.off + n ≤ cs.length then some ((cs.drop a.off).take n) else none
  | some (.own r) => if ep a = r.ep ∧ a.off + n ≤ r.cs.length then some ((r.cs.drop a.off).take n) else none
  | _ => none
def over (cs : List Value) (off : Nat) (vs : List Value) : List Value := cs.take off ++ vs ++ cs.drop (off + vs.length)
def St.wr (s : St) (a : Addr) (vs : List Value) : Option St :=
  match s.get a.block with
  | some (.own r) => if ep a = r.ep ∧ a.off + vs.length ≤ r.cs.length ∧ r.frz ≤ a.off ∧ r.str = false ∧ vs.all Value.oneCell' = true then some (s.set a.block (.own { r with cs := over r.cs a.off vs })) else none
  | _ => none

/-! ### The program's tables, as the evaluator asks them -/
structure Ty where
  und : TypeDesc
  size : Nat
  bytes : Nat
  zero : Value
def Ty.agg (t : Ty) : Bool := match t.und with | .struct _ | .array _ _ => true | _ => false
/-- Values without addresses and without parts. -/
def plainV : Value → Bool
  | .bool _ | .int _ _ | .string _ => true
  | _ => false
structure Prg where
  ty : Nat → Option Ty
  fn : Nat → Option Func
  /-- struct and array types whose values are compared cell by cell -/
  eqs : Nat → Bool
  /-- the package-level variables that are read, and their cells -/
  laid : List (Nat × List Value)
  /-- what is known of calls, beforehand -/
  known : Nat → List Value → Option Value

def Prg.glob (X : Prg) (g : Nat) : Bool := X.laid.any fun p => p.1 == g
def plainEq : Value → Value → Bool
  | .bool a, .bool b => a == b
  | .int k a, .int k' b => decide (k = k') && a == b
  | .string a, .string b => a.data.toList == b.data.toList
  | _, _ => false
def plainEqs : List Value → List Value → Bool
  | [], [] => true
  | x :: xs, y :: ys => plainEq x y && plainEqs xs ys
  | _, _ => false
/-- The package-level variables stand in the store as they were laid. -/
def laidOk (X : Prg) (s : St) : Bool := X.laid.all fun p => match s.get p.1 with
  | some (.ro c) => plainEqs c p.2
  | _ => false
def Prg.und (X : Prg) (t : Nat) : Option TypeDesc := match X.ty t with | some ty => some ty.und | none => none

/-- Scalars that '==' compares by what they are. -/
inductive FK where
  | int (k : IntKind)
  | bool
  | str
def flat : FK → Value → Value → Option Bool
  | .int k, .int k' a, .int k'' b => if k' = k ∧ k'' = k then some (a == b) else none
  | .bool, .bool a, .bool b => some (a == b)
  | .str, .string a, .string b => some (a.data.toList == b.data.toList)
  | _, _, _ => none
def flats : List FK → List Value → List Value → Option Bool
  | [], [], [] => some true
  | k :: ks, x :: xs, y :: ys => match flat k x y, flats ks xs ys with
    | some a, some b => some (a && b)
    | _, _ => none
  | _, _, _ => none
/-- The kinds of the cells of a type whose values '==' compares cell by cell. -/
def kreps (l : List FK) : Nat → List FK
  | 0 => []
  | n + 1 => l ++ kreps l n
def fieldKinds (X : Prg) (kinds : Nat → Option (List FK)) : List Field → Nat → Option (List FK)
  | [], _ => some []
  | f :: r, off => match X.ty f.type, kinds f.type with
    | some ty, some ks => if f.name ≠ "_" ∧ f.offset = off ∧ ks.length = ty.size then (fieldKinds X kinds r (off + ty.size)).map (ks ++ ·) else none
    | _, _ => none
def kindsOf (X : Prg) : Nat → Nat → Option (List FK)
  | 0, _ => none
  | d + 1, t => match X.ty t with
    | none => none
    | some ty => match ty.und with
      | .bool => some [.bool]
      | .int k => some [.int k]
      | .string => some [.str]
      | .struct fs => if X.eqs t then fieldKinds X (kindsOf X d) fs.toList 0 else none
      | .array n e => match X.ty e, kindsOf X d e with
        | some te, some ks => if X.eqs t ∧ ks.length = te.size then some (kreps ks n) else none
        | _, _ => none
      | _ => none

/-! ### Slices: the number behind the length: '2 c + 1': just so many fit; '2 m': at least so many -/
def capX (c : Nat) : Nat := 2 * c + 1
def capO (m : Nat) : Nat := 2 * m
def Addr.fwd (a : Addr) (n : Nat) : Addr := ⟨a.block, a.off + n, a.spot⟩

def asI : Value → Option Int
  | .int _ n => some n
  | _ => none
def bnd (v : Option Value) (d y : Nat) : Option Nat :=
  match v with
  | none => some d
  | some (.int _ i) => if 0 ≤ i ∧ i ≤ y then some i.toNat else none
  | some _ => none

def sliceOp (X : Prg) (t : TypeId) (x : Value) (lo hi mx : Option Value) : Option Value :=
  match X.ty t with
  | none => none
  | some ty =>
    match ty.und, x with
    | .string, .string b =>
      if mx.isSome then none else
      match bnd hi b.size b.size with
      | some h => match bnd lo 0 h with
        | some l => some (.string (b.extract l h))
        | none => none
      | none => none
    | .slice e, .slice none len _ =>
      if len ≠ 0 then none else
      match mx.elim (some 0) (fun v => bnd (some v) 0 0), bnd hi 0 0, bnd lo 0 0 with
      | some _, some _, some _ => if mx.isSome && hi.isNone then none else if (X.ty e).isSome then some (.slice none 0 0) else none
      | _, _, _ => none
    | .slice e, .slice (some a) len cap =>
      match X.ty e with
      | none => none
      | some te =>
      match mx with
      | some (.int _ m) =>
        if hi.isNone then none else
        if 0 ≤ m ∧ m ≤ ((cap / 2 : Nat) : Int) then
          match bnd hi 0 m.toNat with
          | some h => match bnd lo 0 h with
            | some l => some (.slice (some (Addr.fwd a (l * te.size))) (h - l) (capX (m.toNat - l)))
            | none => none
          | none => none
        else none
      | some _ => none
      | none =>
        match bnd hi len (cap / 2) with
        | some h => match bnd lo 0 h with
          | some l => some (.slice (some (Addr.fwd a (l * te.size))) (h - l) (if cap % 2 = 1 then capX (cap / 2 - l) else capO (cap / 2 - l)))
          | none => none
        | none => none
    | .array n e, .pointer (some a) =>
      if mx.isSome then none else
      match X.ty e, bnd hi n n with
      | some te, some h => match bnd lo 0 h with
        | some l => some (.slice (some (Addr.fwd a (l * te.size))) (h - l) (capX (n - l)))
        | none => none
      | _, _ => none
    | _, _ => none

def loadv (X : Prg) (t : TypeId) (v : Value) (s : St) : Option Value :=
  match X.ty t, v with
  | some ty, .pointer (some a) =>
    match s.rd a ty.size with
    | some cs => if ty.agg then some (.agg cs.toArray) else match cs with | [x] => some x | _ => none
    | none => none
  | _, _ => none
def storev (X : Prg) (t : TypeId) (p v : Value) (s : St) : Option St :=
  match X.ty t, p with
  | some ty, .pointer (some a) => if v.cells.size = ty.size then s.wr a v.cells.toList else none
  | _, _ => none
def newRow (s : St) (elem : TypeId) (cs : List Value) : Nat × St := (s.size, s.push (.own ⟨cs, elem, 0, 0, false⟩))
def ptr (b off : Nat) : Value := .pointer (some ⟨b, off, none⟩)

def partv (X : Prg) (t : TypeId) (cs : Array Value) (off : Nat) : Option Value :=
  match X.ty t with
  | some ty => if ty.agg then (if off + ty.size ≤ cs.size then some (.agg (cs.extract off (off + ty.size))) else none) else cs[off]?
  | none => none

def places (X : Prg) (fs : List Field) : Option (List (Nat × Nat)) :=
  match fs with
  | [] => some []
  | f :: r => match X.ty f.type, places X r with
    | some ty, some l => some ((f.offset, ty.size) :: l)
    | _, _ => none
def evParts (ev : Operand → Value) (ps : Array (Nat × Operand)) : List (Nat × Value) := ps.toList.map fun p => (p.1, ev p.2)
def reps (z : List Value) : Nat → List Value
  | 0 => []
  | n + 1 => z ++ reps z n
def buildv (X : Prg) (t : TypeId) (parts : List (Nat × Value)) : Option Value :=
  match X.ty t with
  | none => none
  | some ty => match ty.und with
    | .struct fs => match places X fs.toList with
      | some l => (Instr.fill (fun i => l[i]?) ty.zero.cells parts).map .agg
      | none => none
    | .array _ e => match X.ty e with
      | some te => (Instr.fill (fun i => some (i * te.size, te.size)) ty.zero.cells parts).map .agg
      | none => none
    | _ => none

/-- The bytes that cells hold. -/
def bytesIn : List Value → Option (List UInt8)
  | [] => some []
  | .int .u8 n :: r => (bytesIn r).map (UInt8.ofNat n.toNat :: ·)
  | _ :: _ => none
def bytesOut (l : List UInt8) : List Value := l.map fun b => .int .u8 b.toNat

def convertv (X : Prg) (src dst : TypeId) (x : Value) (s : St) : Option (Value × St) :=
  match X.ty src, X.ty dst with
  | some ts, some td =>
    match ts.und, td.und, x with
    | .int _, .int k, .int _ n => some (.int k (k.wrap n), s)
    | .int _, .string, .int _ n => some (.string (Utf8.encode n), s)
    | .string, .string, .string b => some (.string b, s)
    | .string, .slice e, .string b =>
      match X.und e with
      | some (.int .u8) => some (.slice (some ⟨s.size, 0, none⟩) b.size (capO b.size), s.push (.own ⟨bytesOut b.data.toList, e, 0, 0, true⟩))
      | _ => none
    | .slice e, .string, .slice none _ _ =>
      match X.und e with
      | some (.int .u8) => some (.string .empty, s)
      | _ => none
    | .slice e, .string, .slice (some a) len _ =>
      match X.und e with
      | some (.int .u8) => match s.rd a len with
        | some cs => (bytesIn cs).map fun l => ((.string ⟨l.toArray⟩ : Value), s)
        | none => none
      | _ => none
    | _, _, _ => none
  | _, _ => none

def lenv (X : Prg) (t : TypeId) (x : Value) (s : St) : Option Int :=
  match X.ty t with
  | none => none
  | some ty => match ty.und, x with
    | .string, .string b => some b.size
    | .slice _, .slice _ n _ => some n
    | .array n _, _ => some n
    | .pointer arr, _ => match X.und arr with
      | some (.array n _) => some n
      | _ => none
    | .map _ _, .map none => some 0
    | .map _ _, .map (some r) => match s.get r with
      | some (.map es _) => some es.length
      | _ => none
    | _, _ => none

/-- What a builtin takes from its second argument: so many cells, as values. -/
def lenOfv : Value → Option Nat
  | .slice _ n _ => some n
  | .string b => some b.size
  | _ => none
def firstv (s : St) (size n : Nat) : Value → Option (List Value)
  | .slice (some a) _ _ => s.rd a (n * size)
  | .slice none _ _ => if n = 0 then some [] else none
  | .string b => if n ≤ b.size ∧ size = 1 then some (bytesOut (b.data.toList.take n)) else none
  | _ => none

/-- No row of the run's passes this many bytes (so the machine's own bound is never met). -/
def roomOk (need bytes : Nat) : Bool := need * bytes ≤ 70368744177664 && need ≤ 70368744177664

/-- What append takes from behind: 'append(x, make(T, n)...)' stands as an int. -/
def newv (X : Prg) (t1 : TypeId) (te : Ty) (y : Value) (s : St) : Option (Nat × List Value) :=
  match X.und t1 with
  | none => none
  | some (.int _) => match y with
    | .int _ n => if 0 ≤ n ∧ roomOk n.toNat te.bytes then some (n.toNat, reps te.zero.cells.toList n.toNat) else none
    | _ => none
  | some _ => match lenOfv y with
    | some n => (firstv s te.size n y).map fun l => (n, l)
    | none => none
def appendTo (te : Ty) (e : TypeId) (n : Nat) (vs : List Value) (x : Value) (s : St) : Option (Value × St) :=
  match x with
  | .slice none len _ =>
    if len ≠ 0 then none else
    if n = 0 then some (.slice none 0 0, s) else
    if roomOk n te.bytes then some (.slice (some ⟨s.size, 0, none⟩) n (capO n), s.push (.own ⟨vs, e, 0, 0, false⟩)) else none
  | .slice (some a) len cap =>
    if n = 0 then some (.slice (some a) len cap, s) else
    if len + n ≤ cap / 2 then
      match s.wr (Addr.fwd a (len * te.size)) vs with
      | some s' => some (.slice (some a) (len + n) cap, s')
      | none => none
    else if cap % 2 = 1 then
      if roomOk (len + n) te.bytes then
        match s.rd a (len * te.size) with
        | some old => some (.slice (some ⟨s.size, 0, none⟩) (len + n) (capO (len + n)), s.push (.own ⟨old ++ vs, e, 0, 0, false⟩))
        | none => none
      else none
    else
      match s.get a.block with
      | some (.own r) =>
        if roomOk (len + n) te.bytes ∧ ep a = r.ep ∧ a.off = 0 ∧ r.cs.length = len * te.size ∧ r.elem = e ∧ vs.all Value.oneCell' = true ∧ r.frz ≤ len * te.size ∧ r.str = false then
          some (.slice (some ⟨a.block, 0, some (r.ep + 1)⟩) (len + n) (capO (len + n)), s.set a.block (.own { r with cs := r.cs ++ vs, ep := r.ep + 1 }))
        else none
      | _ => none
  | _ => none
def appendv (X : Prg) (argTypes : Array TypeId) (x y : Value) (s : St) : Option (Value × St) :=
  match argTypes[0]?, argTypes[1]? with
  | some t, some t1 => match X.und t with
    | some (.slice e) => match X.ty e with
      | some te => match newv X t1 te y s with
        | some (n, vs) => appendTo te e n vs x s
        | none => none
      | none => none
    | _ => none
  | _, _ => none

def copyTo (n dLen : Nat) (cs : List Value) (base : Option Addr) (s : St) : Option (Value × St) :=
  match base with
  | none => if dLen = 0 then some (.int .i64 n, s) else none
  | some a => if n = 0 then some (.int .i64 n, s) else (s.wr a cs).map fun s' => (.int .i64 n, s')
def copyv (X : Prg) (argTypes : Array TypeId) (x y : Value) (s : St) : Option (Value × St) :=
  match argTypes[0]? with
  | some t => match X.und t with
    | some (.slice e) => match X.ty e, x, lenOfv y with
      | some te, .slice base dLen _, some m => match firstv s te.size (Nat.min m dLen) y with
        | some cs => copyTo (Nat.min m dLen) dLen cs base s
        | none => none
      | _, _, _ => none
    | _ => none
  | none => none

def clearv (X : Prg) (argTypes : Array TypeId) (x : Value) (s : St) : Option (Value × St) :=
  match argTypes[0]? with
  | some t => match X.ty t with
    | some ty => match ty.und, x with
      | .slice _, .slice none _ _ => some (.tuple #[], s)
      | .slice e, .slice (some a) n _ => if n = 0 then some (.tuple #[], s) else match X.ty e with
        | some te => (s.wr a (reps te.zero.cells.toList n)).map fun s' => (.tuple #[], s')
        | none => none
      | _, _ => none
    | none => none
  | none => none

/-! ### Maps, by keys that are whole numbers or texts -/
def keyEq : TypeDesc → Value → Value → Option Bool
  | .int _, .int k a, .int k' b => if k = k' then some (a == b) else none
  | .string, .string a, .string b => some (a.data.toList == b.data.toList)
  | _, _, _ => none
def findE (d : TypeDesc) (k : Value) : List MapEntry → Nat → Option (Option (Nat × Value))
  | [], _ => some none
  | e :: es, i => match keyEq d k e.key with
    | some true => some (some (i, e.val))
    | some false => findE d k es (i + 1)
    | none => none
def cstOk0 : Value → Bool
  | .int _ _ | .string _ => true
  | _ => false
def keyTy : TypeDesc → Bool
  | .int _ | .string => true
  | _ => false
def entries (m : Value) (s : St) : Option (List MapEntry) :=
  match m with
  | .map none => some []
  | .map (some r) => match s.get r with | some (.map es _) => some es | _ => none
  | _ => none
def lookupv (X : Prg) (t : TypeId) (m k : Value) (ok : Bool) (s : St) : Option Value :=
  match X.und t with
  | some (.map kt et) => match X.und kt, X.ty et, entries m s with
    | some dk, some te, some es =>
      if keyTy dk then
        match findE dk k es 0 with
        | some (some (_, v)) => some (if ok then .tuple #[v, .bool true] else v)
        | some none => some (if ok then .tuple #[te.zero, .bool false] else te.zero)
        | none => none
      else none
    | _, _, _ => none
  | _ => none
def setVal (es : List MapEntry) (i : Nat) (v : Value) : List MapEntry := es.modify i fun e => { e with val := v }
def mapUpdatev (X : Prg) (t : TypeId) (m k v : Value) (s : St) : Option St :=
  match X.und t, m with
  | some (.map kt _), .map (some r) => match X.und kt, s.get r with
    | some dk, some (.map es clock) =>
      if keyTy dk ∧ cstOk0 k then
        match findE dk k es 0 with
        | some (some (i, _)) => some (s.set r (.map (setVal es i v) clock))
        | some none => some (s.set r (.map (es ++ [{ key := k, val := v, born := clock }]) (clock + 1)))
        | none => none
      else none
    | _, _ => none
  | _, _ => none
def deletev (X : Prg) (t : TypeId) (m k : Value) (s : St) : Option St :=
  match X.und t, m with
  | some (.map kt _), .map (some r) => match X.und kt, s.get r with
    | some dk, some (.map es clock) =>
      if keyTy dk then
        match findE dk k es 0 with
        | some (some (i, _)) => some (s.set r (.map (es.eraseIdx i) clock))
        | some none => some (s.set r (.map es clock))
        | none => none
      else none
    | _, _ => none
  | _, _ => none

def min2v : Value → Value → Option Value
  | .int k x, .int _ y => some (.int k (if y < x then y else x))
  | _, _ => none
def max2v : Value → Value → Option Value
  | .int k x, .int _ y => some (.int k (if y > x then y else x))
  | _, _ => none
def foldv (f : Value → Value → Option Value) : Value → List Value → Option Value
  | x, [] => some x
  | x, y :: r => match f x y with | some z => foldv f z r | none => none

def builtinv (X : Prg) (b : Builtin) (argTypes : Array TypeId) (args : List Value) (s : St) : Option (Value × St) :=
  match b, args with
  | .len, [x] => match argTypes[0]? with
    | some t => (lenv X t x s).map fun n => (.int .i64 n, s)
    | none => none
  | .cap, [.slice none 0 0] => match argTypes[0]? with
    | some t => match X.und t with
      | some (.slice _) => some (.int .i64 0, s)
      | _ => none
    | none => none
  | .cap, [.slice (some _) _ c] => match argTypes[0]? with
    | some t => match X.und t with
      | some (.slice _) => if c % 2 = 1 then some (.int .i64 (c / 2 : Nat), s) else none
      | _ => none
    | none => none
  | .append, [x, y] => appendv X argTypes x y s
  | .copy, [x, y] => copyv X argTypes x y s
  | .clear, [x] => clearv X argTypes x s
  | .delete, [m, k] => match argTypes[0]? with
    | some t => (deletev X t m k s).map fun s' => (.tuple #[], s')
    | none => none
  | .min, x :: r => (foldv min2v x r).map fun v => (v, s)
  | .max, x :: r => (foldv max2v x r).map fun v => (v, s)
  | _, _ => none

/-! ### Operators -/
def cmpI (op : BinOp) (x y : Int) : Option Bool :=
  match op with
  | .eql => some (x == y)
  | .neq => some (x != y)
  | .lss => some (x < y)
  | .leq => some (x ≤ y)
  | .gtr => some (x > y)
  | .geq => some (x ≥ y)
  | _ => none
def bitsI (op : BinOp) (k : IntKind) (x y : Int) : Option Int :=
  match op with
  | .and => some (k.wrap (BitVec.ofInt k.bits x &&& BitVec.ofInt k.bits y).toNat)
  | .or => some (k.wrap (BitVec.ofInt k.bits x ||| BitVec.ofInt k.bits y).toNat)
  | .xor => some (k.wrap (BitVec.ofInt k.bits x ^^^ BitVec.ofInt k.bits y).toNat)
  | .andNot => some (k.wrap (BitVec.ofInt k.bits x &&& ~~~(BitVec.ofInt k.bits y)).toNat)
  | _ => none
def intOp (op : BinOp) (k : IntKind) (x y : Int) : Option Value :=
  match op with
  | .add => some (.int k (k.wrap (x + y)))
  | .sub => some (.int k (k.wrap (x - y)))
  | .mul => some (.int k (k.wrap (x * y)))
  | .quo => if y = 0 then none else some (.int k (k.wrap (x.tdiv y)))
  | .rem => if y = 0 then none else some (.int k (x.tmod y))
  | .and | .or | .xor | .andNot => (bitsI op k x y).map (.int k)
  | .shl | .shr => none
  | _ => (cmpI op x y).map .bool
def strLt : List UInt8 → List UInt8 → Bool
  | _, [] => false
  | [], _ :: _ => true
  | a :: x, b :: y => a < b || (a == b && strLt x y)
def strOp (op : BinOp) (x y : ByteArray) : Option Value :=
  match op with
  | .add => if x.size + y.size ≤ 140737488355328 then some (.string ⟨(x.data.toList ++ y.data.toList).toArray⟩) else none
  | .eql => some (.bool (x.data.toList == y.data.toList))
  | .neq => some (.bool (!(x.data.toList == y.data.toList)))
  | .lss => some (.bool (strLt x.data.toList y.data.toList))
  | .leq => some (.bool (strLt x.data.toList y.data.toList || x.data.toList == y.data.toList))
  | .gtr => some (.bool (!(strLt x.data.toList y.data.toList || x.data.toList == y.data.toList)))
  | .geq => some (.bool (!(strLt x.data.toList y.data.toList)))
  | _ => none
/-- '==' of other kinds -/
def eqv0 (X : Prg) (t : TypeId) : Value → Value → Option Bool
  | .bool a, .bool b => match X.und t with | some .bool => some (a == b) | _ => none
  | .pointer none, .pointer b => match X.und t with | some (.pointer _) => some b.isNone | _ => none
  | .pointer (some _), .pointer none => match X.und t with | some (.pointer _) => some false | _ => none
  | .pointer (some a), .pointer (some b) => match X.und t with
    | some (.pointer e) => match X.ty e with
      | some te => if te.size ≠ 0 ∧ a = b then some true else none
      | none => none
    | _ => none
  | .slice none _ _, .slice b _ _ => match X.und t with | some (.slice _) => some b.isNone | _ => none
  | .slice (some _) _ _, .slice none _ _ => match X.und t with | some (.slice _) => some false | _ => none
  | .map none, .map b => match X.und t with | some (.map _ _) => some b.isNone | _ => none
  | .map (some _), .map none => match X.und t with | some (.map _ _) => some false | _ => none
  | .nilFunc, .nilFunc => match X.und t with | some (.func _ _ _) => some true | _ => none
  | .func _ _ _, .nilFunc | .nilFunc, .func _ _ _ => match X.und t with | some (.func _ _ _) => some false | _ => none
  | _, _ => none
def eqv (X : Prg) (t : TypeId) (x y : Value) : Option Bool :=
  match x, y with
  | .agg xs, .agg ys => match X.ty t, kindsOf X 8 t with
    | some ty, some ks => if ty.agg then flats ks xs.toList ys.toList else none
    | _, _ => none
  | x, y => eqv0 X t x y
def binOpv (X : Prg) (op : BinOp) (t : TypeId) (x y : Value) : Option Value :=
  match op, x, y with
  | .shl, .int k a, .int _ b => if b < 0 then none else some (.int k (k.wrap (a * 2 ^ (min b.toNat k.bits))))
  | .shr, .int k a, .int _ b => if b < 0 then none else some (.int k (a.fdiv (2 ^ (min b.toNat k.bits))))
  | op, .int k a, .int k' b => if k = k' then intOp op k a b else none
  | op, .string a, .string b => strOp op a b
  | .eql, x, y => (eqv X t x y).map .bool
  | .neq, x, y => (eqv X t x y).map fun b => .bool (!b)
  | _, _, _ => none
def unOpv (op : UnOp) (x : Value) : Option Value :=
  match op, x with
  | .neg, .int k n => some (.int k (k.wrap (0 - n)))
  | .xor, .int k n => (bitsI .xor k (if k.signed then -1 else k.max) n).map (.int k)
  | .not, .bool b => some (.bool (!b))
  | _, _ => none

def nilCheckv : Value → Option Value
  | .pointer (some a) => some (.pointer (some a))
  | .func (.func f) a b => some (.func (.func f) a b)
  | _ => none
def fieldAddrv (X : Prg) (t : TypeId) (x : Value) (f : Nat) : Option Value :=
  match X.und t, x with
  | some (.struct fs), .pointer (some a) => match fs[f]? with
    | some fd => match X.ty fd.type with
      | some ty => if ty.size ≠ 0 then some (.pointer (some (Addr.fwd a fd.offset))) else none
      | none => none
    | none => none
  | _, _ => none
def fieldv (X : Prg) (t : TypeId) (x : Value) (f : Nat) : Option Value :=
  match X.und t, x with
  | some (.struct fs), .agg cs => match fs[f]? with
    | some fd => partv X fd.type cs fd.offset
    | none => none
  | _, _ => none
def indexAddrv (X : Prg) (t : TypeId) (x i : Value) : Option Value :=
  match X.und t, x, i with
  | some (.array n e), .pointer (some a), .int _ j => match X.ty e with
    | some te => if 0 ≤ j ∧ j < n ∧ te.size ≠ 0 then some (.pointer (some (Addr.fwd a (j.toNat * te.size)))) else none
    | none => none
  | some (.slice e), .slice (some a) len _, .int _ j => match X.ty e with
    | some te => if 0 ≤ j ∧ j < len ∧ te.size ≠ 0 then some (.pointer (some (Addr.fwd a (j.toNat * te.size)))) else none
    | none => none
  | _, _, _ => none
def indexv (X : Prg) (t : TypeId) (x i : Value) : Option Value :=
  match X.und t, x, i with
  | some (.array n e), .agg cs, .int _ j => match X.ty e with
    | some te => if 0 ≤ j ∧ j < n then partv X e cs (j.toNat * te.size) else none
    | none => none
  | some .string, .string b, .int _ j => if 0 ≤ j ∧ j < b.size then (b.data.toList[j.toNat]?).map fun c => .int .u8 c.toNat else none
  | _, _, _ => none

/-- One operation that is no call of a Go function. -/
def aop (X : Prg) (ev : Operand → Value) (op : Op) (s : St) : Option (Value × St) :=
  match op with
  | .move x | .assign x => some (ev x, s)
  | .pick c a b => match ev c with | .bool t => some (if t then ev a else ev b, s) | _ => none
  | .alloc t => match X.ty t with | some ty => some (ptr s.size 0, s.push (.own ⟨ty.zero.cells.toList, t, 0, 0, false⟩)) | none => none
  | .box t v => match X.ty t with | some _ => some (ptr s.size 0, s.push (.own ⟨(ev v).cells.toList, t, 0, 0, false⟩)) | none => none
  | .build t ps => (buildv X t (evParts ev ps)).map fun v => (v, s)
  | .buildSlice t n ps => match X.und t with
    | some (.slice e) => match X.ty e with
      | some te => if n * te.size ≤ 65536 then
          match Instr.fill (fun i => some (i * te.size, te.size)) (reps te.zero.cells.toList n).toArray (evParts ev ps) with
          | some cs => some (.slice (some ⟨s.size, 0, none⟩) n (capX n), s.push (.own ⟨cs.toList, e, 0, 0, false⟩))
          | none => none
        else none
      | none => none
    | _ => none
  | .load t a => (loadv X t (ev a) s).map fun v => (v, s)
  | .store t a v => (storev X t (ev a) (ev v) s).map fun s' => (undef, s')
  | .nilCheck x => (nilCheckv (ev x)).map fun v => (v, s)
  | .binOp op t x y _ => (binOpv X op t (ev x) (ev y)).map fun v => (v, s)
  | .unOp op _ x => (unOpv op (ev x)).map fun v => (v, s)
  | .convert a b x => convertv X a b (ev x) s
  | .makeFunc fn first captured => some (.func fn (first.map ev) (captured.map ev), s)
  | .makeMap t none => match X.und t with
    | some (.map _ _) => some (.map (some s.size), s.push (.map [] 0))
    | _ => none
  | .makeSlice t l c => match X.und t, ev l, ev c with
    | some (.slice e), .int _ n, .int _ m => match X.ty e with
      | some te => if 0 ≤ n ∧ n ≤ m ∧ roomOk m.toNat te.bytes then
          some (.slice (some ⟨s.size, 0, none⟩) n.toNat (capX m.toNat), s.push (.own ⟨reps te.zero.cells.toList m.toNat, e, 0, 0, false⟩))
        else none
      | none => none
    | _, _, _ => none
  | .slice t x lo hi mx => (sliceOp X t (ev x) (lo.map ev) (hi.map ev) (mx.map ev)).map fun v => (v, s)
  | .fieldAddr t x f => (fieldAddrv X t (ev x) f).map fun v => (v, s)
  | .field t x f => (fieldv X t (ev x) f).map fun v => (v, s)
  | .indexAddr t x i => (indexAddrv X t (ev x) (ev i)).map fun v => (v, s)
  | .index t x i => (indexv X t (ev x) (ev i)).map fun v => (v, s)
  | .lookup t m k ok => (lookupv X t (ev m) (ev k) ok s).map fun v => (v, s)
  | .mapUpdate t m k v => (mapUpdatev X t (ev m) (ev k) (ev v) s).map fun s' => (undef, s')
  | .range t x => match X.und t, ev x with
    | some .string, .string b => some (ptr s.size 0, s.push (.iter b 0))
    | _, _ => none
  | .next it true => match ev it with
    | .pointer (some a) => if a.off = 0 then match s.get a.block with
      | some (.iter b pos) => if pos < b.size then
          some (.tuple #[.bool true, .int .i64 pos, .int .i32 (Utf8.decode b pos).1], s.set a.block (.iter b (pos + (Utf8.decode b pos).2)))
        else some (.tuple #[.bool false], s)
      | _ => none
      else none
    | _ => none
  | .extract t i => match ev t with
    | .tuple vs => (vs[i]?).map fun v => (v, s)
    | _ => none
  | .call { callee := .builtin b, args, argTypes } => builtinv X b argTypes (args.toList.map ev) s
  | _ => none
end Go.Proofs.Ytndedkpcfjnecaa.Ab
