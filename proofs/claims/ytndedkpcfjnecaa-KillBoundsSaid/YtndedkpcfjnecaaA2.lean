/- The evaluator's control: operations in a row, regions whose order is open, code, calls. -/
import Derived.Test.YtndedkpcfjnecaaA1
namespace Go.Proofs.Ytndedkpcfjnecaa.Ab

abbrev Caller := Nat → List Value → St → Option (Value × St)
inductive Xit where
  | normal
  | exit (id : Nat)
  | goto (l : Nat)
  | ret

def wantedE (all : Array Oper) (o : Oper) (ρ : Env) : Bool :=
  match o.guard with
  | none => true
  | some (j, want) => match (all[j]?).bind (·.dst) with
    | some d => match ρ.get d with
      | .bool b => b == want
      | _ => false
    | none => false
def stepOp (call : Caller) (X : Prg) (o : Oper) (ρ : Env) (s : St) : Option (Value × St) :=
  match o.op with
  | .call { callee := .value f, args, .. } => match evo ρ f with
    | .func (.func k) first captured => call k (first.toList ++ args.toList.map (evo ρ) ++ captured.toList) s
    | _ => none
  | op => aop X (evo ρ) op s
def runOps (call : Caller) (X : Prg) (all : Array Oper) : List Oper → Env → St → Option (Env × St)
  | [], ρ, s => some (ρ, s)
  | o :: r, ρ, s =>
    if wantedE all o ρ then
      match stepOp call X o ρ s with
      | some (v, s') => runOps call X all r (ρ.put o.dst v) s'
      | none => none
    else runOps call X all r (ρ.put o.dst undef) s

/-! ### Regions whose order is open -/
def isEff : Op → Bool
  | .store _ _ _ | .mapUpdate _ _ _ _ | .next _ _ => true
  | .call { callee := .value _, .. } => true
  | .call { callee := .builtin b, .. } => match b with
    | .append | .copy | .clear | .delete => true
    | _ => false
  | _ => false
def isNew (X : Prg) : Op → Bool
  | .alloc _ | .box _ _ | .buildSlice _ _ _ | .makeMap _ _ | .makeSlice _ _ _ | .range _ _ => true
  | .convert a b _ => match X.und a, X.und b with
    | some .string, some (.slice _) => true
    | _, _ => false
  | _ => false
def plainEdge (e : Edge) : Bool := match e.ground with
  | .textOnly _ | .gcOnly _ => false
  | _ => true
/-- The operations that stand ahead of each, by edges, as bits. -/
def befs (ops : List Oper) : List Nat :=
  ops.foldl (fun acc o => acc ++ [(o.after.toList.filter plainEdge).foldl (fun m e => m ||| 2 ^ e.on ||| acc.getD e.on 0) 0]) []
def looks (ops : List Oper) (o : Oper) : List Nat :=
  (o.op.operands.toList.filterMap fun x => match x with | .tmp t => some t | _ => none) ++
  (match o.guard with
   | some (j, _) => match (ops[j]?).bind (·.dst) with | some d => [d] | none => []
   | none => [])
def iota : Nat → List Nat
  | 0 => []
  | n + 1 => iota n ++ [n]
def statOk (X : Prg) (ops : List Oper) : Bool :=
  let bs := befs ops
  let n := ops.length
  (iota n).all fun i => match ops[i]? with
    | none => false
    | some o =>
      (o.after.toList.all fun e => !plainEdge e || decide (e.on < i)) &&
      (match o.op with | .select _ _ => false | _ => true) &&
      ((iota n).all fun j => j == i || (match ops[j]? with
        | none => false
        | some p =>
          (match p.dst with
           | none => true
           | some d => !(looks ops o).contains d || (bs.getD i 0).testBit j || (bs.getD j 0).testBit i) &&
          (match p.dst, o.dst with
           | some d, some d' => d != d'
           | _, _ => true) &&
          (!(isEff o.op && isEff p.op) || (bs.getD i 0).testBit j || (bs.getD j 0).testBit i) &&
          (!(isEff o.op && isNew X p.op && decide (j < i)) || (bs.getD i 0).testBit j)))

def aeq : Nat → Value → Value → Bool
  | _, .bool a, .bool b => a == b
  | _, .int k a, .int k' b => k == k' && a == b
  | _, .string a, .string b => a.data.toList == b.data.toList
  | _, .pointer a, .pointer b => a == b
  | _, .slice a l c, .slice b l' c' => a == b && l == l' && c == c'
  | _, .map a, .map b => a == b
  | _, .nilFunc, .nilFunc => true
  | _, .nilIface, .nilIface => true
  | n + 1, .func f a b, .func g c d => f == g && (aeqs n a.toList c.toList && aeqs n b.toList d.toList)
  | n + 1, .agg a, .agg b => aeqs n a.toList b.toList
  | n + 1, .tuple a, .tuple b => aeqs n a.toList b.toList
  | n + 1, .iface t a, .iface u b => t == u && aeq n a b
  | _, _, _ => false
where aeqs : Nat → List Value → List Value → Bool
  | _, [], [] => true
  | n + 1, x :: xs, y :: ys => aeq n x y && aeqs n xs ys
  | _, _, _ => false

/-- What stood ahead of each operation, in the text's order; behind all, the last. -/
def trace (call : Caller) (X : Prg) (all : Array Oper) : List Oper → Env → St → List (Env × St)
  | [], ρ, s => [(ρ, s)]
  | o :: r, ρ, s =>
    if wantedE all o ρ then
      match stepOp call X o ρ s with
      | some (v, s') => (ρ, s) :: trace call X all r (ρ.put o.dst v) s'
      | none => [(ρ, s)]
    else (ρ, s) :: trace call X all r (ρ.put o.dst undef) s
def sameAt (X : Prg) (T : Env) (o : Oper) (ρ : Env) (s : Option (Env × St)) : Bool :=
  match s with
  | none => false
  | some s => match aop X (evo ρ) o.op s.2 with
    | some (v, _) => match o.dst with
      | some d => aeq 1000 v (T.get d)
      | none => true
    | none => false
/-- What reads beside what writes reads the same, ahead of it and behind it. -/
def effsOf (ops : List Oper) : List Nat := (iota ops.length).filter fun j => match ops[j]? with | some p => isEff p.op | none => false
def readsOk (X : Prg) (ops : List Oper) (T : Env) (tr : List (Env × St)) : Bool :=
  (effsOf ops).isEmpty || (iota ops.length).all fun i => match ops[i]?, tr[i]? with
    | some o, some at_ => isEff o.op || isNew X o.op || (effsOf ops).all fun j => ((befs ops).getD i 0).testBit j || ((befs ops).getD j 0).testBit i || !wantedE ops.toArray o at_.1 ||
        sameAt X T o at_.1 (if j < i then tr[j]? else tr[j + 1]?)
    | _, _ => false

def region (call : Caller) (X : Prg) (ops : List Oper) (draw : Bool) (ρ : Env) (s : St) : Option (Env × St) :=
  match runOps call X ops.toArray ops ρ s with
  | none => none
  | some (T, s') =>
    if draw then
      if readsOk X ops T (trace call X ops.toArray ops ρ s) then some (T, s') else none
    else some (T, s')

/-! ### Code and calls -/
/-- Values without addresses. -/
def cstOk : Nat → Value → Bool
  | _, .bool _ | _, .int _ _ | _, .string _ | _, .pointer none | _, .slice none 0 0 | _, .map none | _, .nilFunc | _, .nilIface => true
  | n + 1, .agg a => a.toList.all (cstOk n)
  | n + 1, .tuple a => a.toList.all (cstOk n)
  | n + 1, .iface _ v => cstOk n v
  | _, _ => false
def findLab : Code → Nat → Option Code
  | c, l => findLabel c l
def resv (X : Prg) (ρ : Env) (s : St) : ResultVar → Option Value
  | .tmp t => some (ρ.get t)
  | .cell a t => loadv X t (ρ.get a) s
def resvs (X : Prg) (ρ : Env) (s : St) : List ResultVar → Option (List Value)
  | [] => some []
  | r :: rs => match resv X ρ s r, resvs X ρ s rs with
    | some v, some vs => some (v :: vs)
    | _, _ => none
def tupv : List Value → Value
  | [v] => v
  | vs => .tuple vs.toArray
def enter (ex : Code → Env → St → Option (Xit × Env × St)) (X : Prg) (f : Nat) (args : List Value) (s : St) : Option (Value × St) :=
  match X.known f args with
  | some v => if args.all plainV && (cstOk 4 v && laidOk X s) then some (v, s) else none
  | none => match X.fn f with
  | none => none
  | some fn => match fn.body with
    | none => none
    | some c =>
      if args.length ≤ fn.ntmps then
        match ex c (Env.of args) s with
        | some (.normal, ρ, s') | some (.ret, ρ, s') => (resvs X ρ s' fn.results.toList).map fun vs => (tupv vs, s')
        | _ => none
      else none
def exec (X : Prg) : Nat → Code → Env → St → Option (Xit × Env × St)
  | 0, _, _, _ => none
  | n + 1, c, ρ, s =>
    match c with
    | .skip | .label _ => some (.normal, ρ, s)
    | .region _ ops draw => (region (enter (exec X n) X) X ops.toList draw ρ s).map fun p => (.normal, p.1, p.2)
    | .seq a b => match exec X n a ρ s with
      | some (.normal, ρ', s') => exec X n b ρ' s'
      | r => r
    | .cond c a b => match evo ρ c with
      | .bool t => exec X n (if t then a else b) ρ s
      | _ => none
    | .block id c => match exec X n c ρ s with
      | some (.exit i, ρ', s') => if i = id then some (.normal, ρ', s') else some (.exit i, ρ', s')
      | r => r
    | .loop c => match exec X n c ρ s with
      | some (.normal, ρ', s') => exec X n (.loop c) ρ' s'
      | r => r
    | .exit id => some (.exit id, ρ, s)
    | .goto l => some (.goto l, ρ, s)
    | .ret => some (.ret, ρ, s)
    | .scope c => jump X n c c ρ s
    | _ => none
where jump (X : Prg) : Nat → Code → Code → Env → St → Option (Xit × Env × St)
  | 0, _, _, _, _ => none
  | n + 1, whole, c, ρ, s => match exec X n c ρ s with
    | some (.goto l, ρ', s') => match findLabel whole l with
      | some r => jump X n whole r ρ' s'
      | none => some (.goto l, ρ', s')
    | r => r
def acall (X : Prg) (n f : Nat) (args : List Value) (s : St) : Option (Value × St) := enter (exec X n) X f args s
end Go.Proofs.Ytndedkpcfjnecaa.Ab
