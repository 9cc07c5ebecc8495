/- Values that bear their contents: slices that are read alone are lists. Definitions. -/
import Derived.Test.YticllcglldbffaaC4
set_option linter.unusedSimpArgs false
set_option linter.unusedVariables false
set_option linter.unusedSectionVars false
section
namespace Go.Proofs.Yticllcglldbffaa.Ab
inductive AV where
  | bad
  | c (v : Value)
  | ptr (a : Addr)
  | fptr (cs : List AV) (off : Nat)
  | sl (a : Addr) (len cap : Nat)
  | lst (sz : Nat) (xs : List (List AV))
  | emp
  | map (r : Nat)
  | fn (f : Nat) (a b : List AV)
  | agg (cs : List AV)
  | tup (vs : List AV)
def atomV : Value → Bool
  | .bool _ | .int _ _ | .string _ | .pointer none | .slice none 0 0 | .map none | .nilFunc | .nilIface => true
  | .tuple a => a.toList.isEmpty
  | _ => false
def cv (v : Value) : AV := match v with
  | .agg cs => if cs.toList.all atomV then .agg (cs.toList.map .c) else .bad
  | v => if atomV v then .c v else .bad
def unc : AV → Value
  | .c v => v
  | _ => undef
def low1 : AV → Option Value
  | .c v => some v
  | _ => none
def lows : List AV → Option (List Value)
  | [] => some []
  | x :: l => match low1 x, lows l with
    | some v, some vs => some (v :: vs)
    | _, _ => none
def low : AV → Option Value
  | .c v => some v
  | .agg cs => (lows cs).map fun l => .agg l.toArray
  | _ => none
def cellsA : AV → Option (List AV)
  | .agg cs => some cs
  | .bad | .tup _ => none
  | v => some [v]
def oneA : AV → Bool
  | .bad | .agg _ | .tup _ => false
  | .c v => v.oneCell'
  | _ => true
structure VRow where
  cs : List AV
  elem : TypeId
  ep : Nat
  frz : Nat
  str : Bool
structure VEnt where
  key : Value
  val : AV
  born : Nat
inductive VO where
  | own (r : VRow)
  | map (es : List VEnt) (clock : Nat)
  | iter (s : ByteArray) (pos : Nat)
structure VS where
  size : Nat
  tr : Nat → Option VO
  ver : Nat → Nat
def VS.get (s : VS) (b : Nat) : Option VO := if b < s.size then s.tr b else none
def VS.push (s : VS) (o : VO) : VS := ⟨s.size + 1, fun b => if b = s.size then some o else s.tr b, s.ver⟩
def VS.set (s : VS) (b : Nat) (o : VO) : VS := ⟨s.size, fun x => if x = b then some o else s.tr x, fun x => if x = b then s.ver b + 1 else s.ver x⟩
def overA (cs : List AV) (off : Nat) (vs : List AV) : List AV := cs.take off ++ vs ++ cs.drop (off + vs.length)
def VS.rd (s : VS) (a : Addr) (n : Nat) : Option (List AV) := match s.get a.block with
  | some (.own r) => if ep a = r.ep ∧ a.off + n ≤ r.cs.length then some ((r.cs.drop a.off).take n) else none
  | _ => none
def VS.wr (s : VS) (a : Addr) (vs : List AV) : Option VS := match s.get a.block with
  | some (.own r) => if ep a = r.ep ∧ a.off + vs.length ≤ r.cs.length ∧ r.frz ≤ a.off ∧ r.str = false ∧ vs.all oneA = true then some (s.set a.block (.own { r with cs := overA r.cs a.off vs })) else none
  | _ => none
structure AEnv where
  tr : Tr AV
def AEnv.get (ρ : AEnv) (i : Nat) : AV := (ρ.tr.get i).getD (.c undef)
def AEnv.set (ρ : AEnv) (i : Nat) (v : AV) : AEnv := ⟨ρ.tr.set i v⟩
def AEnv.put (ρ : AEnv) (d : Option Nat) (v : AV) : AEnv := match d with | some i => ρ.set i v | none => ρ
def AEnv.fill : Nat → List AV → AEnv → AEnv
  | _, [], ρ => ρ
  | i, v :: vs, ρ => AEnv.fill (i + 1) vs (ρ.set i v)
def AEnv.of (args : List AV) : AEnv := AEnv.fill 0 args ⟨.nil⟩
def globA (X : Prg) (g : Nat) : AV := match X.laid.find? (fun p => p.1 == g) with
  | some p => .fptr (p.2.map .c) 0
  | none => .bad
def evA (X : Prg) (ρ : AEnv) : Operand → AV
  | .tmp t => ρ.get t
  | .const v => cv v
  | .global g => globA X g
  | .func f => .fn f [] []
def boolA : AV → Option Bool
  | .c (.bool b) => some b
  | _ => none
def isA (v : AV) (w : Bool) : Bool := match v with
  | .c (.bool b) => b == w
  | _ => false
def funA : AV → Option (Nat × List AV × List AV)
  | .fn f a b => some (f, a, b)
  | _ => none
def tupA : AV → Nat → Option AV
  | .tup vs, i => vs[i]?
  | _, _ => none
def oneOf (ty : Ty) (cs : List AV) : Option AV := if ty.agg then some (.agg cs) else match cs with
  | [x] => some x
  | _ => none
def loadA (X : Prg) (t : TypeId) (v : AV) (s : VS) : Option AV := match X.ty t with
  | none => none
  | some ty => match v with
    | .ptr a => (s.rd a ty.size).bind (oneOf ty)
    | .fptr cs off => if off + ty.size ≤ cs.length then oneOf ty ((cs.drop off).take ty.size) else none
    | _ => none
def storeA (X : Prg) (t : TypeId) (p v : AV) (s : VS) : Option VS := match X.ty t, p, cellsA v with
  | some ty, .ptr a, some cs => if cs.length = ty.size then s.wr a cs else none
  | _, _, _ => none
def partA (X : Prg) (t : TypeId) (cs : List AV) (off : Nat) : Option AV := match X.ty t with
  | some ty => if ty.agg then (if off + ty.size ≤ cs.length then some (.agg ((cs.drop off).take ty.size)) else none) else cs[off]?
  | none => none
def fillA (place : Nat → Option (Nat × Nat)) : List AV → List (Nat × AV) → Option (List AV)
  | cs, [] => some cs
  | cs, (i, v) :: rest => match place i, cellsA v with
    | some (off, size), some l => if l.length = size ∧ off + l.length ≤ cs.length then fillA place (overA cs off l) rest else none
    | _, _ => none
def partsA (ev : Operand → AV) (ps : Array (Nat × Operand)) : List (Nat × AV) := ps.toList.map fun p => (p.1, ev p.2)
def buildA (X : Prg) (t : TypeId) (parts : List (Nat × AV)) : Option AV := match X.ty t with
  | none => none
  | some ty => match ty.und with
    | .struct fs => match places X fs.toList with
      | some l => (fillA (fun i => l[i]?) (ty.zero.cells.toList.map cv) parts).map .agg
      | none => none
    | .array _ e => match X.ty e with
      | some te => (fillA (fun i => some (i * te.size, te.size)) (ty.zero.cells.toList.map cv) parts).map .agg
      | none => none
    | _ => none
def bsliceA (X : Prg) (t n : Nat) (parts : List (Nat × AV)) (s : VS) : Option (AV × VS) := match X.und t with
  | some (.slice e) => match X.ty e with
    | some te => if n * te.size ≤ 65536 then
        match fillA (fun i => some (i * te.size, te.size)) ((reps te.zero.cells.toList n).map cv) parts with
        | some cs => some (.sl ⟨s.size, 0, none⟩ n (capX n), s.push (.own ⟨cs, e, 0, 0, false⟩))
        | none => none
      else none
    | none => none
  | _ => none
def mksliceA (X : Prg) (t : Nat) (l c : AV) (s : VS) : Option (AV × VS) := match X.und t, l, c with
  | some (.slice e), .c (.int _ n), .c (.int _ m) => match X.ty e with
    | some te => if 0 ≤ n ∧ n ≤ m ∧ roomOk m.toNat te.bytes then
        some (.sl ⟨s.size, 0, none⟩ n.toNat (capX m.toNat), s.push (.own ⟨(reps te.zero.cells.toList m.toNat).map cv, e, 0, 0, false⟩))
      else none
    | none => none
  | _, _, _ => none
def chunk {α : Type} (k : Nat) : Nat → List α → List (List α)
  | 0, _ => []
  | n + 1, l => l.take k :: chunk k n (l.drop k)
def reSl : Option Value → Option AV
  | some (.slice (some a) l c) => some (.sl a l c)
  | _ => none
def bndA (o : Option AV) (d y : Nat) : Option Nat := bnd (o.map unc) d y
def maxA (o : Option AV) (n : Nat) : Option Nat := match o with
  | none => some n
  | some (.c (.int _ m)) => if 0 ≤ m ∧ m ≤ (n : Int) then some m.toNat else none
  | some _ => none
def cutL (sz : Nat) (xs : List (List AV)) (lo hi mx : Option AV) : Option AV := match maxA mx xs.length with
  | some m => if mx.isSome && hi.isNone then none else match bndA hi xs.length m with
    | some h => match bndA lo 0 h with
      | some l => if mx.isSome && m - l == 0 then some .emp else some (.lst sz ((xs.drop l).take (h - l)))
      | none => none
    | none => none
  | none => none
def cutE (X : Prg) (t : TypeId) (lo hi mx : Option AV) : Option Unit := match X.und t with
  | some (.slice e) => if (X.ty e).isSome && !(mx.isSome && hi.isNone) then match maxA mx 0, bndA hi 0 0, bndA lo 0 0 with
    | some _, some _, some _ => some ()
    | _, _, _ => none
    else none
  | _ => none
def sliceA (X : Prg) (t : TypeId) (x : AV) (lo hi mx : Option AV) : Option AV := match x with
  | .c (.slice none 0 0) => (cutE X t lo hi mx).map fun _ => .c (.slice none 0 0)
  | .c v => (sliceOp X t v (lo.map unc) (hi.map unc) (mx.map unc)).map cv
  | .sl a len cap => reSl (sliceOp X t (.slice (some a) len cap) (lo.map unc) (hi.map unc) (mx.map unc))
  | .ptr a => reSl (sliceOp X t (.pointer (some a)) (lo.map unc) (hi.map unc) (mx.map unc))
  | .lst sz xs => match X.und t with
    | some (.slice e) => match X.ty e with
      | some te => if te.size = sz then cutL sz xs lo hi mx else none
      | none => none
    | _ => none
  | .emp => (cutE X t lo hi mx).map fun _ => .emp
  | .fptr cs off => match X.und t with
    | some (.array n e) => match X.ty e with
      | some te => if mx.isNone && decide (off + n * te.size ≤ cs.length) then match bndA hi n n with
        | some h => match bndA lo 0 h with
          | some l => some (.lst te.size (chunk te.size (h - l) (cs.drop (off + l * te.size))))
          | none => none
        | none => none
        else none
      | none => none
    | _ => none
  | _ => none
def convertA (X : Prg) (src dst : TypeId) (x : AV) (s : VS) : Option (AV × VS) := match X.ty src, X.ty dst with
  | some ts, some td => match ts.und, td.und, x with
    | .int _, .int k, .c (.int _ n) => some (.c (.int k (k.wrap n)), s)
    | .int _, .string, .c (.int _ n) => some (.c (.string (Utf8.encode n)), s)
    | .string, .string, .c (.string b) => some (.c (.string b), s)
    | .string, .slice e, .c (.string b) => match X.und e with
      | some (.int .u8) => some (.sl ⟨s.size, 0, none⟩ b.size (capO b.size), s.push (.own ⟨(bytesOut b.data.toList).map .c, e, 0, 0, true⟩))
      | _ => none
    | .slice e, .string, x => match X.und e with
      | some (.int .u8) => match x with
        | .c (.slice none 0 0) | .emp => some (.c (.string .empty), s)
        | .lst 1 xs => ((lows xs.flatten).bind bytesIn).map fun l => (.c (.string ⟨l.toArray⟩), s)
        | .sl a len _ => ((s.rd a len).bind fun cs => (lows cs).bind bytesIn).map fun l => (.c (.string ⟨l.toArray⟩), s)
        | _ => none
      | _ => none
    | .pointer t, .unsafePointer, .ptr a =>
      match X.ty t, s.get a.block with
      | some tt, some (.own r) => if tt.size ≠ 0 ∧ ep a = r.ep ∧ a.off < r.cs.length then some (.ptr a, s) else none
      | _, _ => none
    | .unsafePointer, .pointer u, .ptr a =>
      match X.ty u, s.get a.block with
      | some tu, some (.own r) => if tu.size ≠ 0 ∧ ep a = r.ep ∧ a.off = 0 ∧ r.elem = u ∧ tu.size ≤ r.cs.length then some (.ptr a, s) else none
      | _, _ => none
    | _, _, _ => none
  | _, _ => none
def lenA (X : Prg) (t : TypeId) (x : AV) (s : VS) : Option Int := match X.ty t with
  | none => none
  | some ty => match ty.und, x with
    | .string, .c (.string b) => some b.size
    | .slice _, .c (.slice none 0 0) | .slice _, .emp => some 0
    | .slice _, .sl _ n _ => some n
    | .slice _, .lst _ xs => some xs.length
    | .array n _, _ => some n
    | .pointer arr, _ => match X.und arr with
      | some (.array n _) => some n
      | _ => none
    | .map _ _, .c (.map none) => some 0
    | .map _ _, .map r => match s.get r with
      | some (.map es _) => some es.length
      | _ => none
    | _, _ => none
def fromA (X : Prg) (t1 : TypeId) (te : Ty) (y : AV) (s : VS) : Option (Nat × List AV) := match X.und t1 with
  | none => none
  | some (.int _) => match y with
    | .c (.int _ n) => if 0 ≤ n ∧ roomOk n.toNat te.bytes then some (n.toNat, (reps te.zero.cells.toList n.toNat).map cv) else none
    | _ => none
  | some _ => match y with
    | .c (.slice none 0 0) | .emp => some (0, [])
    | .c (.string b) => if te.size = 1 then some (b.size, (bytesOut b.data.toList).map .c) else none
    | .lst sz xs => if te.size = sz then some (xs.length, xs.flatten) else none
    | .sl a n _ => (s.rd a (n * te.size)).map fun l => (n, l)
    | _ => none
def appendToA (te : Ty) (e : TypeId) (n : Nat) (vs : List AV) (x : AV) (s : VS) : Option (AV × VS) := match x with
  | .c (.slice none 0 0) =>
    if n = 0 then some (.c (.slice none 0 0), s) else
    if roomOk n te.bytes then some (.sl ⟨s.size, 0, none⟩ n (capO n), s.push (.own ⟨vs, e, 0, 0, false⟩)) else none
  | .emp =>
    if n = 0 then some (.emp, s) else
    if roomOk n te.bytes then some (.sl ⟨s.size, 0, none⟩ n (capO n), s.push (.own ⟨vs, e, 0, 0, false⟩)) else none
  | .lst sz xs => if n = 0 then some (.lst sz xs, s) else none
  | .sl a len cap =>
    if n = 0 then some (.sl a len cap, s) else
    if len + n ≤ cap / 2 then (s.wr (Addr.fwd a (len * te.size)) vs).map fun s' => (.sl a (len + n) cap, s')
    else if cap % 2 = 1 then
      if roomOk (len + n) te.bytes then
        (s.rd a (len * te.size)).map fun old => (.sl ⟨s.size, 0, none⟩ (len + n) (capO (len + n)), s.push (.own ⟨old ++ vs, e, 0, 0, false⟩))
      else none
    else
      match s.get a.block with
      | some (.own r) =>
        if roomOk (len + n) te.bytes ∧ ep a = r.ep ∧ a.off = 0 ∧ r.cs.length = len * te.size ∧ r.elem = e ∧ vs.all oneA = true ∧ r.frz ≤ len * te.size ∧ r.str = false then
          some (.sl ⟨a.block, 0, some (r.ep + 1)⟩ (len + n) (capO (len + n)), s.set a.block (.own { r with cs := r.cs ++ vs, ep := r.ep + 1 }))
        else none
      | _ => none
  | _ => none
def appendA (X : Prg) (ts : Array TypeId) (x y : AV) (s : VS) : Option (AV × VS) := match ts[0]?, ts[1]? with
  | some t, some t1 => match X.und t with
    | some (.slice e) => match X.ty e with
      | some te => match fromA X t1 te y s with
        | some (n, vs) => appendToA te e n vs x s
        | none => none
      | none => none
    | _ => none
  | _, _ => none
def lenOfA : AV → Option Nat
  | .c (.slice none 0 0) | .emp => some 0
  | .c (.string b) => some b.size
  | .lst _ xs => some xs.length
  | .sl _ n _ => some n
  | _ => none
def firstA (s : VS) (size n : Nat) : AV → Option (List AV)
  | .c (.slice none 0 0) | .emp => if n = 0 then some [] else none
  | .c (.string b) => if n ≤ b.size ∧ size = 1 then some ((bytesOut (b.data.toList.take n)).map .c) else none
  | .lst sz xs => if size = sz ∧ n ≤ xs.length then some (xs.take n).flatten else none
  | .sl a _ _ => s.rd a (n * size)
  | _ => none
def dstA : AV → Option Nat
  | .c (.slice none 0 0) | .emp => some 0
  | .lst _ xs => some xs.length
  | .sl _ n _ => some n
  | _ => none
def copyToA (n : Nat) (x : AV) (cs : List AV) (s : VS) : Option (AV × VS) := if n = 0 then some (.c (.int .i64 0), s) else match x with
  | .sl a _ _ => (s.wr a cs).map fun s' => (.c (.int .i64 n), s')
  | _ => none
def copyA (X : Prg) (ts : Array TypeId) (x y : AV) (s : VS) : Option (AV × VS) := match ts[0]? with
  | some t => match X.und t with
    | some (.slice e) => match X.ty e, dstA x, lenOfA y with
      | some te, some d, some m => match firstA s te.size (Nat.min m d) y with
        | some cs => copyToA (Nat.min m d) x cs s
        | none => none
      | _, _, _ => none
    | _ => none
  | none => none
def clearA (X : Prg) (ts : Array TypeId) (x : AV) (s : VS) : Option (AV × VS) := match ts[0]? with
  | some t => match X.und t with
    | some (.slice e) => match x with
      | .c (.slice none 0 0) => some (.c undef, s)
      | .sl a n _ => if n = 0 then some (.c undef, s) else match X.ty e with
        | some te => (s.wr a ((reps te.zero.cells.toList n).map cv)).map fun s' => (.c undef, s')
        | none => none
      | _ => none
    | _ => none
  | none => none
def keyEqs (d : TypeDesc) (k : Value) : List VEnt → Nat → Option (Option (Nat × AV))
  | [], _ => some none
  | e :: es, i => match keyEq d k e.key with
    | some true => some (some (i, e.val))
    | some false => keyEqs d k es (i + 1)
    | none => none
def entriesA (m : AV) (s : VS) : Option (List VEnt) := match m with
  | .c (.map none) => some []
  | .map r => match s.get r with | some (.map es _) => some es | _ => none
  | _ => none
def lookupA (X : Prg) (t : TypeId) (m k : AV) (ok : Bool) (s : VS) : Option AV := match X.und t with
  | some (.map kt et) => match X.und kt, X.ty et, entriesA m s, low1 k with
    | some dk, some te, some es, some k =>
      if keyTy dk then
        match keyEqs dk k es 0 with
        | some (some (_, v)) => some (if ok then .tup [v, .c (.bool true)] else v)
        | some none => some (if ok then .tup [cv te.zero, .c (.bool false)] else cv te.zero)
        | none => none
      else none
    | _, _, _, _ => none
  | _ => none
def setValA (es : List VEnt) (i : Nat) (v : AV) : List VEnt := es.modify i fun e => { e with val := v }
def mapUpdateA (X : Prg) (t : TypeId) (m k v : AV) (s : VS) : Option VS := match X.und t, m, low1 k with
  | some (.map kt _), .map r, some k => match X.und kt, s.get r with
    | some dk, some (.map es clock) =>
      if keyTy dk ∧ cstOk0 k then
        match keyEqs dk k es 0 with
        | some (some (i, _)) => some (s.set r (.map (setValA es i v) clock))
        | some none => some (s.set r (.map (es ++ [⟨k, v, clock⟩]) (clock + 1)))
        | none => none
      else none
    | _, _ => none
  | _, _, _ => none
def deleteA (X : Prg) (t : TypeId) (m k : AV) (s : VS) : Option VS := match X.und t, m, low1 k with
  | some (.map kt _), .map r, some k => match X.und kt, s.get r with
    | some dk, some (.map es clock) =>
      if keyTy dk then
        match keyEqs dk k es 0 with
        | some (some (i, _)) => some (s.set r (.map (es.eraseIdx i) clock))
        | some none => some (s.set r (.map es clock))
        | none => none
      else none
    | _, _ => none
  | _, _, _ => none
def unsafeStrA (X : Prg) (ts : Array TypeId) (p : AV) (n : Int) (s : VS) : Option (AV × VS) :=
  match ts.toList with
  | [pt, _] =>
    if n = 0 then (match p with | .ptr _ | .c (.pointer none) => some (.c (.string .empty), s) | _ => none) else
    match p with
    | .ptr a => match X.und pt, s.get a.block with
      | some (.pointer e), some (.own r) => match X.ty e with
        | some te => if te.size = 1 ∧ ep a = r.ep ∧ a.off = 0 ∧ r.elem = e ∧ 0 ≤ n ∧ n.toNat ≤ r.cs.length ∧ roomOk n.toNat 1 then
            match (lows (r.cs.take n.toNat)).bind bytesX with
            | some l => some (.c (.string ⟨l.toArray⟩), s.set a.block (.own { r with frz := max r.frz n.toNat }))
            | none => none
          else none
        | none => none
      | _, _ => none
    | _ => none
  | _ => none
def builtinA (X : Prg) (b : Builtin) (ts : Array TypeId) (args : List AV) (s : VS) : Option (AV × VS) := match b, args with
  | .len, [x] => match ts[0]? with
    | some t => (lenA X t x s).map fun n => (.c (.int .i64 n), s)
    | none => none
  | .cap, [.c (.slice none 0 0)] => match ts[0]? with
    | some t => match X.und t with
      | some (.slice _) => some (.c (.int .i64 0), s)
      | _ => none
    | none => none
  | .append, [x, y] => appendA X ts x y s
  | .copy, [x, y] => copyA X ts x y s
  | .clear, [x] => clearA X ts x s
  | .delete, [m, k] => match ts[0]? with
    | some t => (deleteA X t m k s).map fun s' => (.c undef, s')
    | none => none
  | .unsafeSliceData, [.c (.slice none 0 0)] => some (.c (.pointer none), s)
  | .unsafeSliceData, [.sl a _ c] => if c / 2 ≠ 0 then some (.ptr a, s) else none
  | .unsafeString, [p, .c (.int .i64 n)] => unsafeStrA X ts p n s
  | .min, x :: r => match low1 x, lows r with
    | some v, some vs => (foldv min2v v vs).map fun v => (cv v, s)
    | _, _ => none
  | .max, x :: r => match low1 x, lows r with
    | some v, some vs => (foldv max2v v vs).map fun v => (cv v, s)
    | _, _ => none
  | _, _ => none
def sameKind : AV → AV → Bool
  | .c (.pointer none), .ptr _ | .c (.pointer none), .fptr _ _ | .ptr _, .c (.pointer none) | .fptr _ _, .c (.pointer none) => true
  | .c (.slice none 0 0), .sl _ _ _ | .c (.slice none 0 0), .lst _ (_ :: _) | .sl _ _ _, .c (.slice none 0 0) | .lst _ (_ :: _), .c (.slice none 0 0) => true
  | .c (.map none), .map _ | .map _, .c (.map none) => true
  | .c .nilFunc, .fn _ _ _ | .fn _ _ _, .c .nilFunc => true
  | _, _ => false
def kindFits : Option TypeDesc → AV → Bool
  | some (.pointer _), .ptr _ | some (.pointer _), .fptr _ _ => true
  | some (.slice _), .sl _ _ _ | some (.slice _), .lst _ _ => true
  | some (.map _ _), .map _ => true
  | some (.func _ _ _), .fn _ _ _ => true
  | _, _ => false
def sameP (X : Prg) (t : TypeId) : AV → AV → Bool
  | .ptr a, .ptr b => match X.und t with
    | some (.pointer e) => match X.ty e with
      | some te => decide (te.size ≠ 0 ∧ a = b)
      | none => false
    | _ => false
  | _, _ => false
def oneNil (X : Prg) (t : TypeId) (x y : AV) : Option Bool :=
  if sameKind x y && (kindFits (X.und t) x || kindFits (X.und t) y) then some false else if sameP X t x y then some true else none
def binA (X : Prg) (op : BinOp) (t : TypeId) (x y : AV) : Option AV := match low x, low y with
  | some a, some b => (binOpv X op t a b).map cv
  | _, _ => match op with
    | .eql => (oneNil X t x y).map fun b => .c (.bool b)
    | .neq => (oneNil X t x y).map fun b => .c (.bool (!b))
    | _ => none
def unA (op : UnOp) (x : AV) : Option AV := match x with
  | .c v => (unOpv op v).map cv
  | _ => none
def nilCheckA : AV → Option AV
  | .ptr a => some (.ptr a)
  | .fptr cs o => some (.fptr cs o)
  | .fn f a b => some (.fn f a b)
  | _ => none
def fieldAddrA (X : Prg) (t : TypeId) (x : AV) (f : Nat) : Option AV := match X.und t with
  | some (.struct fs) => match fs[f]? with
    | some fd => match X.ty fd.type with
      | some ty => if ty.size ≠ 0 then match x with
          | .ptr a => some (.ptr (Addr.fwd a fd.offset))
          | .fptr cs off => some (.fptr cs (off + fd.offset))
          | _ => none
        else none
      | none => none
    | none => none
  | _ => none
def fieldA (X : Prg) (t : TypeId) (x : AV) (f : Nat) : Option AV := match X.und t, x with
  | some (.struct fs), .agg cs => match fs[f]? with
    | some fd => partA X fd.type cs fd.offset
    | none => none
  | _, _ => none
def indexAddrA (X : Prg) (t : TypeId) (x i : AV) : Option AV := match X.und t, i with
  | some (.array n e), .c (.int _ j) => match X.ty e with
    | some te => if 0 ≤ j ∧ j < n ∧ te.size ≠ 0 then match x with
        | .ptr a => some (.ptr (Addr.fwd a (j.toNat * te.size)))
        | .fptr cs off => some (.fptr cs (off + j.toNat * te.size))
        | _ => none
      else none
    | none => none
  | some (.slice e), .c (.int _ j) => match X.ty e with
    | some te => if te.size ≠ 0 then match x with
        | .sl a len _ => if 0 ≤ j ∧ j < len then some (.ptr (Addr.fwd a (j.toNat * te.size))) else none
        | .lst sz xs => if te.size = sz ∧ 0 ≤ j then (xs[j.toNat]?).map fun x => .fptr x 0 else none
        | _ => none
      else none
    | none => none
  | _, _ => none
def indexA (X : Prg) (t : TypeId) (x i : AV) : Option AV := match X.und t, x, i with
  | some (.array n e), .agg cs, .c (.int _ j) => match X.ty e with
    | some te => if 0 ≤ j ∧ j < n then partA X e cs (j.toNat * te.size) else none
    | none => none
  | some .string, .c (.string b), .c (.int _ j) => if 0 ≤ j ∧ j < b.size then (b.data.toList[j.toNat]?).map fun c => .c (.int .u8 c.toNat) else none
  | _, _, _ => none
def nextA (it : AV) (s : VS) : Option (AV × VS) := match it with
  | .ptr a => if a.off = 0 then match s.get a.block with
    | some (.iter b pos) => if pos < b.size then
        some (.tup [.c (.bool true), .c (.int .i64 pos), .c (.int .i32 (Utf8.decode b pos).1)], s.set a.block (.iter b (pos + (Utf8.decode b pos).2)))
      else some (.tup [.c (.bool false)], s)
    | _ => none
    else none
  | _ => none
def pickA : Option Bool → AV → AV → Option AV
  | some true, a, _ => some a
  | some false, _, b => some b
  | none, _, _ => none
def newA (o : Option Ty) (t : TypeId) (z : Option AV) (s : VS) : Option (AV × VS) := match o with
  | some ty => match z with
    | none => some (.ptr ⟨s.size, 0, none⟩, s.push (.own ⟨ty.zero.cells.toList.map cv, t, 0, 0, false⟩))
    | some v => (cellsA v).map fun cs => (.ptr ⟨s.size, 0, none⟩, s.push (.own ⟨cs, t, 0, 0, false⟩))
  | none => none
def aopA (X : Prg) (ev : Operand → AV) (op : Op) (s : VS) : Option (AV × VS) := match op with
  | .move x | .assign x => some (ev x, s)
  | .pick c a b => (pickA (boolA (ev c)) (ev a) (ev b)).map fun v => (v, s)
  | .alloc t => newA (X.ty t) t none s
  | .box t v => newA (X.ty t) t (some (ev v)) s
  | .build t ps => (buildA X t (partsA ev ps)).map fun v => (v, s)
  | .buildSlice t n ps => bsliceA X t n (partsA ev ps) s
  | .load t a => (loadA X t (ev a) s).map fun v => (v, s)
  | .store t a v => (storeA X t (ev a) (ev v) s).map fun s' => (.c undef, s')
  | .nilCheck x => (nilCheckA (ev x)).map fun v => (v, s)
  | .binOp op t x y _ => (binA X op t (ev x) (ev y)).map fun v => (v, s)
  | .unOp op _ x => (unA op (ev x)).map fun v => (v, s)
  | .convert a b x => convertA X a b (ev x) s
  | .makeFunc (.func f) first captured => some (.fn f (first.toList.map ev) (captured.toList.map ev), s)
  | .makeMap t none => match X.und t with
    | some (.map _ _) => some (.map s.size, s.push (.map [] 0))
    | _ => none
  | .makeSlice t l c => mksliceA X t (ev l) (ev c) s
  | .slice t x lo hi mx => (sliceA X t (ev x) (lo.map ev) (hi.map ev) (mx.map ev)).map fun v => (v, s)
  | .fieldAddr t x f => (fieldAddrA X t (ev x) f).map fun v => (v, s)
  | .field t x f => (fieldA X t (ev x) f).map fun v => (v, s)
  | .indexAddr t x i => (indexAddrA X t (ev x) (ev i)).map fun v => (v, s)
  | .index t x i => (indexA X t (ev x) (ev i)).map fun v => (v, s)
  | .lookup t m k ok => (lookupA X t (ev m) (ev k) ok s).map fun v => (v, s)
  | .mapUpdate t m k v => (mapUpdateA X t (ev m) (ev k) (ev v) s).map fun s' => (.c undef, s')
  | .range t x => match X.und t, ev x with
    | some .string, .c (.string b) => some (.ptr ⟨s.size, 0, none⟩, s.push (.iter b 0))
    | _, _ => none
  | .next it true => nextA (ev it) s
  | .extract t i => (tupA (ev t) i).map fun v => (v, s)
  | .call { callee := .builtin b, args, argTypes } => builtinA X b argTypes (args.toList.map ev) s
  | _ => none
end Go.Proofs.Yticllcglldbffaa.Ab
end
section
namespace Go.Proofs.Yticllcglldbffaa.Ab
def rdO (o : AObj) (e off n : Nat) : Option (List Value) := match o with
  | .ro cs => if e = 0 ∧ off + n ≤ cs.length then some ((cs.drop off).take n) else none
  | .own r => if e = r.ep ∧ off + n ≤ r.cs.length then some ((r.cs.drop off).take n) else none
  | _ => none
theorem rd_of_rdO {s : St} {a : Addr} {o : AObj} {n : Nat} {ds : List Value} (h : s.get a.block = some o) (hr : rdO o (ep a) a.off n = some ds) : s.rd a n = some ds := by
  unfold St.rd
  rw [h]
  unfold rdO at hr
  cases o <;> first | exact hr | (simp at hr; done)
theorem rdO_sub {o : AObj} {e off n k m : Nat} {ds : List Value} (h : rdO o e off n = some ds) (hk : k + m ≤ n) : rdO o e (off + k) m = some ((ds.drop k).take m) := by
  have key : ∀ cs : List Value, off + n ≤ cs.length → (((cs.drop off).take n).drop k).take m = (cs.drop (off + k)).take m := by
    intro cs hc
    rw [List.drop_take, List.drop_drop, List.take_take, Nat.min_eq_left (by omega)]
  unfold rdO at h ⊢
  split at h
  · split at h
    · rename_i hc; cases h
      rw [if_pos ⟨hc.1, by omega⟩, key _ hc.2]
    · cases h
  · split at h
    · rename_i hc; cases h
      rw [if_pos ⟨hc.1, by omega⟩, key _ hc.2]
    · cases h
  · cases h
structure Wd where
  φ : Nat → Option Nat
  M : Nat → Option AObj
structure Wd.le (d d' : Wd) : Prop where
  phi : ∀ b k, d.φ b = some k → d'.φ b = some k
  frz : ∀ k o, d.M k = some o → d'.M k = some o
theorem Wd.le.refl (d : Wd) : d.le d := ⟨fun _ _ h => h, fun _ _ h => h⟩
theorem Wd.le.trans {d d1 d2 : Wd} (h : d.le d1) (k : d1.le d2) : d.le d2 := ⟨fun b x hb => k.phi b x (h.phi b x hb), fun b x hb => k.frz b x (h.frz b x hb)⟩
mutual
inductive VR (d : Wd) : AV → Value → Prop
  | bad (v : Value) : VR d .bad v
  | c (v : Value) : atomV v = true → VR d (.c v) v
  | ptr (a : Addr) (k : Nat) : d.φ a.block = some k → VR d (.ptr a) (.pointer (some ⟨k, a.off, a.spot⟩))
  | fptr (cs : List AV) (off base : Nat) (a : Addr) (o : AObj) (ds : List Value) : d.M a.block = some o → a.off = base + off → rdO o (ep a) base cs.length = some ds → VRs d cs ds → VR d (.fptr cs off) (.pointer (some a))
  | sl (a : Addr) (len cap k : Nat) : d.φ a.block = some k → VR d (.sl a len cap) (.slice (some ⟨k, a.off, a.spot⟩) len cap)
  | lnil (sz : Nat) : VR d (.lst sz []) (.slice none 0 0)
  | lst (sz : Nat) (xs : List (List AV)) (a : Addr) (n cap : Nat) (o : AObj) (cs : List AV) (ds : List Value) : d.M a.block = some o → n = xs.length → rdO o (ep a) a.off (n * sz) = some ds → (∀ x ∈ xs, x.length = sz) → n ≤ cap / 2 → cs = xs.flatten → VRs d cs ds → VR d (.lst sz xs) (.slice (some a) n cap)
  | enil : VR d .emp (.slice none 0 0)
  | emp (a : Addr) (o : AObj) (cap : Nat) : d.M a.block = some o → rdO o (ep a) a.off 0 = some [] → cap = capX 0 → VR d .emp (.slice (some a) 0 cap)
  | map (r k : Nat) : d.φ r = some k → VR d (.map r) (.map (some k))
  | fn (f : Nat) (a b : List AV) (a' b' : Array Value) : VRs d a a'.toList → VRs d b b'.toList → VR d (.fn f a b) (.func (.func f) a' b')
  | agg (cs : List AV) (cs' : Array Value) : VRs d cs cs'.toList → VR d (.agg cs) (.agg cs')
  | tup (cs : List AV) (cs' : Array Value) : VRs d cs cs'.toList → VR d (.tup cs) (.tuple cs')
inductive VRs (d : Wd) : List AV → List Value → Prop
  | nil : VRs d [] []
  | cons (v : AV) (v' : Value) (l : List AV) (l' : List Value) : VR d v v' → VRs d l l' → VRs d (v :: l) (v' :: l')
end
mutual
theorem VR.mono {d d' : Wd} (h : d.le d') : ∀ {v : AV} {v' : Value}, VR d v v' → VR d' v v'
  | _, _, .bad v => .bad v
  | _, _, .c v h1 => .c v h1
  | _, _, .ptr a k h1 => .ptr a k (h.phi _ _ h1)
  | _, _, .fptr cs off base a o ds h1 h2 h3 h4 => .fptr cs off base a o ds (h.frz _ _ h1) h2 h3 (VRs.mono h h4)
  | _, _, .sl a len cap k h1 => .sl a len cap k (h.phi _ _ h1)
  | _, _, .lnil sz => .lnil sz
  | _, _, .lst sz xs a n cap o cs ds h1 h2 h3 h4 h5 h6 h7 => .lst sz xs a n cap o cs ds (h.frz _ _ h1) h2 h3 h4 h5 h6 (VRs.mono h h7)
  | _, _, .enil => .enil
  | _, _, .emp a o cap h1 h2 h3 => .emp a o cap (h.frz _ _ h1) h2 h3
  | _, _, .map r k h1 => .map r k (h.phi _ _ h1)
  | _, _, .fn f a b a' b' h1 h2 => .fn f a b a' b' (VRs.mono h h1) (VRs.mono h h2)
  | _, _, .agg cs cs' h1 => .agg cs cs' (VRs.mono h h1)
  | _, _, .tup cs cs' h1 => .tup cs cs' (VRs.mono h h1)
theorem VRs.mono {d d' : Wd} (h : d.le d') : ∀ {l : List AV} {l' : List Value}, VRs d l l' → VRs d' l l'
  | _, _, .nil => .nil
  | _, _, .cons v v' l l' h1 h2 => .cons v v' l l' (VR.mono h h1) (VRs.mono h h2)
end
theorem VRs.length {d : Wd} : ∀ {l : List AV} {l' : List Value}, VRs d l l' → l.length = l'.length
  | _, _, .nil => rfl
  | _, _, .cons _ _ _ _ _ h => by simp [VRs.length h]
theorem VRs.get {d : Wd} : ∀ {l : List AV} {l' : List Value}, VRs d l l' → ∀ (i : Nat) (v : AV), l[i]? = some v → ∃ v', l'[i]? = some v' ∧ VR d v v'
  | _, _, .nil, i, v, h => by simp at h
  | _, _, .cons v v' l l' h1 h2, 0, u, h => by
    simp at h; subst h
    exact ⟨v', rfl, h1⟩
  | _, _, .cons v v' l l' h1 h2, i + 1, u, h => by
    simp at h
    obtain ⟨u', h3, h4⟩ := VRs.get h2 i u h
    exact ⟨u', by simpa using h3, h4⟩
theorem VRs.append {d : Wd} : ∀ {l : List AV} {l' : List Value} {m : List AV} {m' : List Value}, VRs d l l' → VRs d m m' → VRs d (l ++ m) (l' ++ m')
  | _, _, _, _, .nil, h => h
  | _, _, _, _, .cons v v' l l' h1 h2, h => .cons v v' _ _ h1 (VRs.append h2 h)
theorem VRs.take {d : Wd} {l : List AV} {l' : List Value} (h : VRs d l l') (n : Nat) : VRs d (l.take n) (l'.take n) := by
  induction n generalizing l l' with
  | zero => exact .nil
  | succ n ih => cases h with
    | nil => exact .nil
    | cons v v' l l' h1 h2 => exact .cons _ _ _ _ h1 (ih h2)
theorem VRs.drop {d : Wd} {l : List AV} {l' : List Value} (h : VRs d l l') (n : Nat) : VRs d (l.drop n) (l'.drop n) := by
  induction n generalizing l l' with
  | zero => exact h
  | succ n ih => cases h with
    | nil => exact .nil
    | cons v v' l l' h1 h2 => exact ih h2
theorem VRs.map {d : Wd} {α : Type} (f : α → AV) (g : α → Value) : ∀ (l : List α), (∀ x ∈ l, VR d (f x) (g x)) → VRs d (l.map f) (l.map g)
  | [], _ => .nil
  | x :: l, h => .cons _ _ _ _ (h x (by simp)) (VRs.map f g l fun y hy => h y (by simp [hy]))
theorem VRs.map1 {d : Wd} (f : Value → AV) (l : List Value) (h : ∀ x ∈ l, VR d (f x) x) : VRs d (l.map f) l := by
  have := VRs.map f id l h
  rwa [List.map_id] at this
theorem VRs.overA {d : Wd} {l m : List AV} {l' m' : List Value} (h : VRs d l l') (k : VRs d m m') (n : Nat) : VRs d (overA l n m) (over l' n m') := by
  unfold Ab.overA Ab.over
  rw [k.length]
  exact ((h.take n).append k).append (h.drop _)
theorem VR.cv {d : Wd} (v : Value) : VR d (cv v) v := by
  unfold Ab.cv
  split
  · rename_i cs
    split
    · rename_i h
      refine .agg _ _ (VRs.map1 _ _ fun x hx => .c x (List.all_eq_true.1 h x hx))
    · exact .bad _
  · split
    · rename_i h; exact .c _ h
    · exact .bad _
theorem VRs.cv {d : Wd} (l : List Value) : VRs d (l.map Ab.cv) l := VRs.map1 _ _ fun x _ => VR.cv x
theorem VR.low1 {d : Wd} {x : AV} {v w : Value} (h : VR d x v) (hl : low1 x = some w) : v = w := by
  cases h <;> simp [Ab.low1] at hl
  exact hl
theorem VRs.lows {d : Wd} : ∀ {l : List AV} {l' m : List Value}, VRs d l l' → lows l = some m → l' = m
  | _, _, m, .nil, h => by simp [Ab.lows] at h; exact h.symm
  | _, _, m, .cons v v' l l' h1 h2, h => by
    simp only [Ab.lows] at h
    split at h
    · rename_i w ws e1 e2
      cases h
      rw [h1.low1 e1, VRs.lows h2 e2]
    · cases h
theorem VR.low {d : Wd} {x : AV} {v w : Value} (h : VR d x v) (hl : low x = some w) : v = w := by
  cases h with
  | c v h => simp [Ab.low] at hl; exact hl
  | agg cs cs' h =>
    simp only [Ab.low, Option.map_eq_some_iff] at hl
    obtain ⟨l, h1, h2⟩ := hl
    rw [← h2, ← h.lows h1]
  | _ => simp [Ab.low] at hl
theorem VR.one {d : Wd} {x : AV} {v : Value} (h : VR d x v) (ho : oneA x = true) : v.oneCell' = true := by
  cases h <;> first | rfl | exact ho | (simp [oneA] at ho; done)
theorem VRs.one {d : Wd} : ∀ {l : List AV} {l' : List Value}, VRs d l l' → l.all oneA = true → l'.all Value.oneCell' = true
  | _, _, .nil, _ => rfl
  | _, _, .cons v v' l l' h1 h2, h => by
    rw [List.all_cons, Bool.and_eq_true] at h ⊢
    exact ⟨h1.one h.1, VRs.one h2 h.2⟩
theorem VR.cells {d : Wd} {x : AV} {v : Value} {cs : List AV} (h : VR d x v) (hc : cellsA x = some cs) : VRs d cs v.cells.toList := by
  cases h with
  | agg a a' h => simp [cellsA] at hc; subst hc; exact h
  | bad => simp [cellsA] at hc
  | tup => simp [cellsA] at hc
  | c v h =>
    simp [cellsA] at hc; subst hc
    have : v.cells.toList = [v] := by cases v <;> first | rfl | (simp [atomV] at h; done)
    rw [this]
    exact .cons _ _ _ _ (.c v h) .nil
  | _ =>
    simp [cellsA] at hc; subst hc
    exact .cons _ _ _ _ (by constructor <;> assumption) .nil
structure OwnR (d : Wd) (r : VRow) (r' : Row) : Prop where
  cs : VRs d r.cs r'.cs
  elem : r'.elem = r.elem
  ep : r'.ep = r.ep
  frz : r'.frz = r.frz
  str : r'.str = r.str
inductive MR (d : Wd) : List VEnt → List MapEntry → Prop
  | nil : MR d [] []
  | cons (k : Value) (v : AV) (v' : Value) (b : Nat) (l : List VEnt) (l' : List MapEntry) : VR d v v' → MR d l l' → MR d (⟨k, v, b⟩ :: l) (⟨k, v', b⟩ :: l')
inductive OR (d : Wd) : VO → AObj → Prop
  | own (r : VRow) (r' : Row) : OwnR d r r' → OR d (.own r) (.own r')
  | map (es : List VEnt) (es' : List MapEntry) (clk : Nat) : MR d es es' → OR d (.map es clk) (.map es' clk)
  | iter (s : ByteArray) (p : Nat) : OR d (.iter s p) (.iter s p)
theorem MR.mono {d d' : Wd} (h : d.le d') : ∀ {l : List VEnt} {l' : List MapEntry}, MR d l l' → MR d' l l'
  | _, _, .nil => .nil
  | _, _, .cons k v v' b l l' h1 h2 => .cons k v v' b l l' (h1.mono h) (MR.mono h h2)
theorem OR.mono {d d' : Wd} (h : d.le d') {o : VO} {o' : AObj} (k : OR d o o') : OR d' o o' := by
  cases k with
  | own r r' q => exact .own r r' ⟨q.cs.mono h, q.elem, q.ep, q.frz, q.str⟩
  | map es es' clk q => exact .map es es' clk (q.mono h)
  | iter s p => exact .iter s p
structure Rel (X : Prg) (d : Wd) (vs : VS) (s : St) : Prop where
  live : ∀ b o, vs.get b = some o → ∃ k o', d.φ b = some k ∧ s.get k = some o' ∧ OR d o o'
  inj : ∀ b b' k, d.φ b = some k → d.φ b' = some k → b = b'
  lt : ∀ b k, d.φ b = some k → b < vs.size ∧ k < s.size
  sep : ∀ b o k, vs.get b = some o → d.φ b = some k → d.M k = none
  frz : ∀ k o, d.M k = some o → s.get k = some o
  glob : ∀ p ∈ X.laid, d.M p.1 = some (.ro p.2) ∧ p.2.all plainV = true
  has : ∀ b k, d.φ b = some k → ∃ o, s.get k = some o
structure Evo (d d' : Wd) (vs vs' : VS) (s s' : St) : Prop where
  le : d.le d'
  phi : ∀ b, b < vs.size → d'.φ b = d.φ b
  vsz : vs.size ≤ vs'.size
  ssz : s.size ≤ s'.size
  verm : ∀ b, b < vs.size → vs.ver b ≤ vs'.ver b
  ver : ∀ b k, b < vs.size → d.φ b = some k → vs'.ver b = vs.ver b → s'.get k = s.get k
theorem Evo.refl (d : Wd) (vs : VS) (s : St) : Evo d d vs vs s s := ⟨.refl d, fun _ _ => rfl, Nat.le_refl _, Nat.le_refl _, fun _ _ => Nat.le_refl _, fun _ _ _ _ _ => rfl⟩
theorem Evo.trans {d d1 d2 : Wd} {vs vs1 vs2 : VS} {s s1 s2 : St} (h : Evo d d1 vs vs1 s s1) (k : Evo d1 d2 vs1 vs2 s1 s2) : Evo d d2 vs vs2 s s2 where
  le := h.le.trans k.le
  phi b hb := (k.phi b (Nat.lt_of_lt_of_le hb h.vsz)).trans (h.phi b hb)
  vsz := Nat.le_trans h.vsz k.vsz
  ssz := Nat.le_trans h.ssz k.ssz
  verm b hb := Nat.le_trans (h.verm b hb) (k.verm b (Nat.lt_of_lt_of_le hb h.vsz))
  ver b x hb hx e := by
    have h1 := h.verm b hb
    have h2 := k.verm b (Nat.lt_of_lt_of_le hb h.vsz)
    rw [k.ver b x (Nat.lt_of_lt_of_le hb h.vsz) (h.le.phi b x hx) (by omega)]
    exact h.ver b x hb hx (by omega)
theorem VS.lt_of_get {s : VS} {b : Nat} {o : VO} (h : s.get b = some o) : b < s.size := by
  unfold VS.get at h
  split at h
  · assumption
  · cases h
theorem VS.get_push (s : VS) (c : Nat) (o : VO) : (s.push o).get c = if c = s.size then some o else s.get c := by
  unfold VS.get VS.push
  by_cases h : c = s.size
  · subst h; simp
  · simp only [if_neg h]
    by_cases h1 : c < s.size
    · rw [if_pos (by omega), if_pos h1]
    · rw [if_neg (by omega), if_neg h1]
theorem VS.get_set {s : VS} {b : Nat} {o0 : VO} (h : s.get b = some o0) (c : Nat) (o : VO) : (s.set b o).get c = if c = b then some o else s.get c := by
  have := VS.lt_of_get h
  unfold VS.get VS.set
  by_cases hc : c = b
  · subst hc; simp [this]
  · simp [hc]
def Wd.add (d : Wd) (b k : Nat) : Wd := ⟨fun x => if x = b then some k else d.φ x, d.M⟩
theorem Rel.push {X : Prg} {d : Wd} {vs : VS} {s : St} (h : Rel X d vs s) {o : VO} {o' : AObj} (ho : OR d o o') :
    Rel X (d.add vs.size s.size) (vs.push o) (s.push o') ∧ Evo d (d.add vs.size s.size) vs (vs.push o) s (s.push o') ∧ (d.add vs.size s.size).φ vs.size = some s.size := by
  have hn : d.φ vs.size = none := by
    cases hq : d.φ vs.size with
    | none => rfl
    | some k => have := (h.lt _ _ hq).1; omega
  have hle : d.le (d.add vs.size s.size) := ⟨fun b k hb => by
    simp only [Wd.add]
    rw [if_neg (by rintro rfl; rw [hn] at hb; cases hb)]; exact hb, fun _ _ h => h⟩
  have hM : d.M s.size = none := by
    cases hq : d.M s.size with
    | none => rfl
    | some o => have := St.lt_of_get (h.frz _ _ hq); omega
  have hg : ∀ k, k < s.size → (s.push o').get k = s.get k := fun k hk => by rw [St.get_push, if_neg (by omega)]
  refine ⟨⟨fun b o1 hb => ?_, fun b b' k hb hb' => ?_, fun b k hb => ?_, fun b o1 k hb hk => ?_, fun k o1 hk => ?_, h.glob, fun b k hb => ?_⟩, ⟨hle, fun b hb => ?_, by simp [VS.push], by simp [St.size_push], fun b hb => Nat.le_refl _, fun b k hb hk _ => hg k (h.lt b k hk).2⟩, by simp [Wd.add]⟩
  · rw [VS.get_push] at hb
    split at hb
    · rename_i he; subst he; cases hb
      exact ⟨s.size, o', by simp [Wd.add], by rw [St.get_push, if_pos rfl], ho.mono hle⟩
    · rename_i he
      obtain ⟨k, o2, h1, h2, h3⟩ := h.live b o1 hb
      exact ⟨k, o2, hle.phi _ _ h1, by rw [hg k (h.lt b k h1).2]; exact h2, h3.mono hle⟩
  · simp only [Wd.add] at hb hb'
    split at hb <;> split at hb'
    · omega
    · cases hb; have := (h.lt _ _ hb').2; omega
    · cases hb'; have := (h.lt _ _ hb).2; omega
    · exact h.inj b b' k hb hb'
  · simp only [Wd.add] at hb
    simp only [VS.push, St.size_push]
    split at hb
    · cases hb; omega
    · have := h.lt b k hb; omega
  · simp only [Wd.add] at hk
    rw [VS.get_push] at hb
    split at hb
    · rename_i he; rw [if_pos he] at hk; cases hk; exact hM
    · rename_i he; rw [if_neg he] at hk; exact h.sep b o1 k hb hk
  · have := h.frz k o1 hk
    rw [hg k (St.lt_of_get this)]; exact this
  · simp only [Wd.add] at hb
    split at hb
    · cases hb; exact ⟨o', by rw [St.get_push, if_pos rfl]⟩
    · obtain ⟨o1, h1⟩ := h.has b k hb
      exact ⟨o1, by rw [hg k (St.lt_of_get h1)]; exact h1⟩
  · simp only [Wd.add]; rw [if_neg (by omega)]
theorem Rel.set {X : Prg} {d : Wd} {vs : VS} {s : St} (h : Rel X d vs s) {b k : Nat} {o0 o : VO} {o' : AObj} (hb : vs.get b = some o0) (hk : d.φ b = some k) (ho : OR d o o') :
    Rel X d (vs.set b o) (s.set k o') ∧ Evo d d vs (vs.set b o) s (s.set k o') := by
  obtain ⟨k1, o1, h1, h2, _⟩ := h.live b o0 hb
  rw [hk] at h1; cases h1
  have hg : ∀ c, c ≠ k → (s.set k o').get c = s.get c := fun c hc => by rw [St.get_set h2, if_neg (fun e => hc e.symm)]
  refine ⟨⟨fun c o1 hc => ?_, h.inj, fun c x hc => h.lt c x hc, fun c o1 x hc hx => ?_, fun c o1 hc => ?_, h.glob, fun c x hc => ?_⟩, ⟨.refl d, fun _ _ => rfl, Nat.le_refl _, Nat.le_refl _, fun c hc => ?_, fun c x hc hx e => ?_⟩⟩
  · rw [VS.get_set hb] at hc
    split at hc
    · rename_i he; subst he; cases hc
      exact ⟨k, o', hk, by rw [St.get_set h2, if_pos rfl], ho⟩
    · rename_i he
      obtain ⟨x, o2, h3, h4, h5⟩ := h.live c o1 hc
      exact ⟨x, o2, h3, by rw [hg x (by rintro rfl; exact he (h.inj _ _ _ h3 hk))]; exact h4, h5⟩
  · rw [VS.get_set hb] at hc
    split at hc
    · rename_i he; subst he; exact h.sep c o0 x hb hx
    · exact h.sep c o1 x hc hx
  · have hs := h.sep b o0 k hb hk
    rw [hg c (by rintro rfl; rw [hs] at hc; cases hc)]; exact h.frz c o1 hc
  · by_cases hxk : x = k
    · subst hxk; exact ⟨o', by rw [St.get_set h2, if_pos rfl]⟩
    · rw [hg x hxk]; exact h.has c x hc
  · simp only [VS.set]; split <;> (try subst_vars) <;> omega
  · simp only [VS.set] at e
    split at e
    · rename_i he; subst he; omega
    · rename_i he; exact hg x (by rintro rfl; exact he (h.inj _ _ _ hx hk))
theorem Rel.rd {X : Prg} {d : Wd} {vs : VS} {s : St} (h : Rel X d vs s) {a : Addr} {k n : Nat} {cs : List AV} (hk : d.φ a.block = some k) (hr : vs.rd a n = some cs) : ∃ cs', s.rd ⟨k, a.off, a.spot⟩ n = some cs' ∧ VRs d cs cs' := by
  unfold VS.rd at hr
  split at hr
  · rename_i r hg
    obtain ⟨k1, o1, h1, h2, h3⟩ := h.live _ _ hg
    rw [hk] at h1; cases h1
    cases h3 with | own r r' q =>
    split at hr
    · rename_i hc
      cases hr
      refine ⟨(r'.cs.drop a.off).take n, ?_, (q.cs.drop _).take _⟩
      have hc' : ep (⟨k, a.off, a.spot⟩ : Addr) = r'.ep ∧ a.off + n ≤ r'.cs.length := ⟨by rw [q.ep]; exact hc.1, by rw [← q.cs.length]; exact hc.2⟩
      unfold St.rd
      simp only [h2]
      exact if_pos hc'
    · cases hr
  · cases hr
theorem Rel.wr {X : Prg} {d : Wd} {vs vs' : VS} {s : St} (h : Rel X d vs s) {a : Addr} {k : Nat} {ws : List AV} {ws' : List Value} (hk : d.φ a.block = some k) (hw : VRs d ws ws') (hr : vs.wr a ws = some vs') :
    ∃ s', s.wr ⟨k, a.off, a.spot⟩ ws' = some s' ∧ Rel X d vs' s' ∧ Evo d d vs vs' s s' := by
  unfold VS.wr at hr
  split at hr
  · rename_i r hg
    obtain ⟨k1, o1, h1, h2, h3⟩ := h.live _ _ hg
    rw [hk] at h1; cases h1
    cases h3 with | own r r' q =>
    split at hr
    · rename_i hc
      cases hr
      have ho : OR d (.own { r with cs := overA r.cs a.off ws }) (.own { r' with cs := over r'.cs a.off ws' }) := .own _ _ ⟨q.cs.overA hw _, q.elem, q.ep, q.frz, q.str⟩
      refine ⟨s.set k (.own { r' with cs := over r'.cs a.off ws' }), ?_, h.set hg hk ho⟩
      have hc' : ep (⟨k, a.off, a.spot⟩ : Addr) = r'.ep ∧ a.off + ws'.length ≤ r'.cs.length ∧ r'.frz ≤ a.off ∧ r'.str = false ∧ ws'.all Value.oneCell' = true := ⟨by rw [q.ep]; exact hc.1, by rw [← q.cs.length, ← hw.length]; exact hc.2.1, by rw [q.frz]; exact hc.2.2.1, by rw [q.str]; exact hc.2.2.2.1, hw.one hc.2.2.2.2⟩
      unfold St.wr
      simp only [h2]
      exact if_pos hc'
    · cases hr
  · cases hr
theorem Rel.frd {X : Prg} {d : Wd} {vs : VS} {s : St} (h : Rel X d vs s) {a : Addr} {o : AObj} {n : Nat} {ds : List Value} (hm : d.M a.block = some o) (hr : rdO o (ep a) a.off n = some ds) : s.rd a n = some ds := rd_of_rdO (h.frz _ _ hm) hr
end Go.Proofs.Yticllcglldbffaa.Ab
end
section
namespace Go.Proofs.Yticllcglldbffaa.Ab
def Sim (X : Prg) (d : Wd) (vs : VS) (s : St) (r : Option (AV × VS)) (r' : Option (Value × St)) : Prop :=
  ∀ v vs', r = some (v, vs') → ∃ v' s' d', r' = some (v', s') ∧ VR d' v v' ∧ Rel X d' vs' s' ∧ Evo d d' vs vs' s s'
def SimV (d : Wd) (r : Option AV) (r' : Option Value) : Prop := ∀ v, r = some v → ∃ v', r' = some v' ∧ VR d v v'
def SimS (X : Prg) (d : Wd) (vs : VS) (s : St) (r : Option VS) (r' : Option St) : Prop :=
  ∀ vs', r = some vs' → ∃ s', r' = some s' ∧ Rel X d vs' s' ∧ Evo d d vs vs' s s'
variable {X : Prg} {d : Wd} {vs : VS} {s : St}
theorem Sim.ofV (h : Rel X d vs s) {r : Option AV} {r' : Option Value} (k : SimV d r r') : Sim X d vs s (r.map fun v => (v, vs)) (r'.map fun v => (v, s)) := by
  intro v vs' hv
  simp only [Option.map_eq_some_iff, Prod.mk.injEq] at hv
  obtain ⟨w, h1, rfl, rfl⟩ := hv
  obtain ⟨w', h2, h3⟩ := k w h1
  exact ⟨w', s, d, by rw [h2]; rfl, h3, h, .refl d vs s⟩
theorem Sim.ofS {r : Option VS} {r' : Option St} {x : AV} {x' : Value} (hx : ∀ d', VR d' x x') (k : SimS X d vs s r r') : Sim X d vs s (r.map fun v => (x, v)) (r'.map fun v => (x', v)) := by
  intro v vs' hv
  simp only [Option.map_eq_some_iff, Prod.mk.injEq] at hv
  obtain ⟨w, h1, rfl, rfl⟩ := hv
  obtain ⟨w', h2, h3, h4⟩ := k w h1
  exact ⟨x', w', d, by rw [h2]; rfl, hx d, h3, h4⟩
theorem Sim.ret (h : Rel X d vs s) {x : AV} {x' : Value} (hx : VR d x x') : Sim X d vs s (some (x, vs)) (some (x', s)) := by
  intro v vs' hv
  cases hv
  exact ⟨x', s, d, rfl, hx, h, .refl d vs s⟩
theorem Sim.new (h : Rel X d vs s) {o : VO} {o' : AObj} (ho : OR d o o') {x : AV} {x' : Value} (hx : VR (d.add vs.size s.size) x x') : Sim X d vs s (some (x, vs.push o)) (some (x', s.push o')) := by
  intro v vs' hv
  cases hv
  obtain ⟨h1, h2, h3⟩ := h.push ho
  exact ⟨x', _, _, rfl, hx, h1, h2⟩
theorem add_new : (d.add vs.size s.size).φ vs.size = some s.size := by simp [Wd.add]
theorem VR.undef : VR d (.c undef) undef := .c _ rfl
theorem VR.bool (b : Bool) : VR d (.c (.bool b)) (.bool b) := .c _ rfl
theorem VR.int (k : IntKind) (n : Int) : VR d (.c (.int k n)) (.int k n) := .c _ rfl
theorem VR.str (b : ByteArray) : VR d (.c (.string b)) (.string b) := .c _ rfl
theorem VR.newPtr : VR (d.add vs.size s.size) (.ptr ⟨vs.size, 0, none⟩) (.pointer (some ⟨s.size, 0, none⟩)) := .ptr ⟨vs.size, 0, none⟩ s.size add_new
theorem VR.newSl (n c : Nat) : VR (d.add vs.size s.size) (.sl ⟨vs.size, 0, none⟩ n c) (.slice (some ⟨s.size, 0, none⟩) n c) := .sl ⟨vs.size, 0, none⟩ n c s.size add_new
theorem OR.mk {cs : List AV} {cs' : List Value} (h : VRs d cs cs') (e ep frz : Nat) (str : Bool) : OR d (.own ⟨cs, e, ep, frz, str⟩) (.own ⟨cs', e, ep, frz, str⟩) := .own _ _ ⟨h, rfl, rfl, rfl, rfl⟩
theorem VR.unc_int {x : AV} {v : Value} (h : VR d x v) {k : IntKind} {n : Int} (e : unc x = .int k n) : v = .int k n := by
  cases h <;> simp [unc, Go.undef] at e
  exact e
theorem bndA_ok {o : Option AV} {o' : Option Value} (h : o.isSome = o'.isSome ∧ ∀ x v, o = some x → o' = some v → VR d x v) {a b n : Nat} (hb : bndA o a b = some n) : bnd o' a b = some n := by
  unfold bndA bnd at hb
  unfold bnd
  cases o with
  | none =>
    cases o' with
    | none => exact hb
    | some _ => simp at h
  | some x =>
    cases o' with
    | none => simp at h
    | some v =>
      simp only [Option.map_some] at hb
      split at hb
      · rename_i hq; cases hq
      · rename_i k i hq
        have := VR.unc_int (h.2 x v rfl rfl) (Option.some.inj hq)
        subst this
        exact hb
      · cases hb
def oneV (ty : Ty) (cs' : List Value) : Option Value := if ty.agg then some (.agg cs'.toArray) else match cs' with | [x] => some x | _ => none
theorem oneOf_sim {ty : Ty} {cs : List AV} {cs' : List Value} (h : VRs d cs cs') : SimV d (oneOf ty cs) (oneV ty cs') := by
  intro v hv
  unfold oneV
  unfold oneOf at hv
  split at hv
  · rename_i ha
    cases hv
    exact ⟨_, by rw [if_pos ha], .agg _ _ h⟩
  · rename_i ha
    split at hv
    · cases hv
      cases h with | cons _ v' _ l' h1 h2 =>
      cases h2
      exact ⟨_, by rw [if_neg ha], h1⟩
    · cases hv
theorem loadA_sim (h : Rel X d vs s) {x : AV} {x' : Value} (hx : VR d x x') (t : TypeId) : SimV d (loadA X t x vs) (loadv X t x' s) := by
  intro v hv
  unfold loadA at hv
  unfold loadv
  split at hv
  · cases hv
  · rename_i ty ht
    rw [ht]
    split at hv
    · rename_i a
      cases hx with | ptr _ k hk =>
      simp only [Option.bind_eq_some_iff] at hv
      obtain ⟨cs, h1, h2⟩ := hv
      obtain ⟨cs', h3, h4⟩ := h.rd hk h1
      simp only [h3]
      exact oneOf_sim h4 v h2
    · rename_i cs off
      cases hx with | fptr _ _ base a o ds h1 h2 h3 h4 =>
      split at hv
      · rename_i hc
        have h5 := rdO_sub h3 hc
        rw [← h2] at h5
        simp only [h.frd h1 h5]
        exact oneOf_sim ((h4.drop _).take _) v hv
      · cases hv
    · cases hv
theorem storeA_sim (h : Rel X d vs s) {p v : AV} {p' v' : Value} (hp : VR d p p') (hv : VR d v v') (t : TypeId) : SimS X d vs s (storeA X t p v vs) (storev X t p' v' s) := by
  intro vs' hr
  unfold storeA at hr
  split at hr
  · rename_i ty a cs ht hc
    cases hp with | ptr _ k hk =>
    split at hr
    · rename_i hl
      have hcs := hv.cells hc
      obtain ⟨s', h1, h2⟩ := h.wr hk hcs hr
      refine ⟨s', ?_, h2⟩
      unfold storev
      simp only [ht]
      rw [if_pos (by rw [← Array.length_toList, ← hcs.length]; exact hl)]
      exact h1
    · cases hr
  · cases hr
theorem partA_sim {cs : List AV} {cs' : Array Value} (h : VRs d cs cs'.toList) (t : TypeId) (off : Nat) : SimV d (partA X t cs off) (partv X t cs' off) := by
  intro v hv
  unfold partA at hv
  unfold partv
  split at hv
  · rename_i ty ht
    rw [ht]
    simp only
    have hl : cs.length = cs'.size := by rw [h.length, Array.length_toList]
    split at hv
    · rename_i ha
      rw [if_pos ha]
      split at hv
      · rename_i hc
        cases hv
        rw [if_pos (by omega)]
        refine ⟨_, rfl, .agg _ _ ?_⟩
        have := (h.drop off).take ty.size
        rw [Array.toList_extract, List.extract_eq_take_drop]
        rwa [show off + ty.size - off = ty.size by omega]
      · cases hv
    · rename_i ha
      rw [if_neg ha]
      obtain ⟨v', h1, h2⟩ := h.get off v hv
      exact ⟨v', by rw [← h1, Array.getElem?_toList], h2⟩
  · cases hv
inductive PR2 (d : Wd) : List (Nat × AV) → List (Nat × Value) → Prop
  | nil : PR2 d [] []
  | cons (i : Nat) (v : AV) (v' : Value) (l : List (Nat × AV)) (l' : List (Nat × Value)) : VR d v v' → PR2 d l l' → PR2 d ((i, v) :: l) ((i, v') :: l')
theorem fillA_sim (place : Nat → Option (Nat × Nat)) : ∀ (l : List (Nat × AV)) (l' : List (Nat × Value)) (cs : List AV) (cs' : List Value) (r : List AV), PR2 d l l' → VRs d cs cs' → fillA place cs l = some r → ∃ r', fillL place cs' l' = some r' ∧ VRs d r r'
  | _, _, cs, cs', r, .nil, h, hr => by
    simp only [fillA] at hr; cases hr
    exact ⟨cs', fillL_nil _ _, h⟩
  | _, _, cs, cs', r, .cons i v v' l l' hv hl, h, hr => by
    simp only [fillA] at hr
    rw [fillL_cons]
    split at hr
    · rename_i off size ws hp hc
      have hw := hv.cells hc
      rw [hp, fillO_some]
      split at hr
      · rename_i hq
        rw [if_pos (by rw [← hw.length, ← h.length]; exact hq)]
        exact fillA_sim place l l' _ _ r hl (h.overA hw off) hr
      · cases hr
    · cases hr
theorem fill_sim {place : Nat → Option (Nat × Nat)} {l : List (Nat × AV)} {l' : List (Nat × Value)} {cs : List AV} {cs' : Array Value} {r : List AV} (hl : PR2 d l l') (h : VRs d cs cs'.toList) (hr : fillA place cs l = some r) : ∃ r' : Array Value, Instr.fill place cs' l' = some r' ∧ VRs d r r'.toList := by
  obtain ⟨r', h1, h2⟩ := fillA_sim place l l' cs cs'.toList r hl h hr
  refine ⟨r'.toArray, ?_, by rwa [List.toList_toArray]⟩
  have := fill_list place l' cs'.toList
  rw [Array.toArray_toList, h1] at this
  exact this
theorem partsA_sim {ev : Operand → AV} {ev' : Operand → Value} (he : ∀ x, VR d (ev x) (ev' x)) (ps : Array (Nat × Operand)) : PR2 d (partsA ev ps) (evParts ev' ps) := by
  unfold partsA evParts
  induction ps.toList with
  | nil => exact .nil
  | cons p l ih => exact .cons _ _ _ _ _ (he _) ih
theorem buildA_sim {l : List (Nat × AV)} {l' : List (Nat × Value)} (hl : PR2 d l l') (t : TypeId) : SimV d (buildA X t l) (buildv X t l') := by
  intro v hv
  unfold buildA at hv
  unfold buildv
  split at hv
  · cases hv
  · rename_i ty ht
    simp only [ht]
    split at hv
    · rename_i fs hu
      simp only [hu]
      split at hv
      · rename_i pl hp
        simp only [hp]
        simp only [Option.map_eq_some_iff] at hv
        obtain ⟨r, h1, rfl⟩ := hv
        obtain ⟨r', h2, h3⟩ := fill_sim hl (VRs.cv _) h1
        exact ⟨_, by rw [h2]; rfl, .agg _ _ h3⟩
      · cases hv
    · rename_i n e hu
      simp only [hu]
      split at hv
      · rename_i te hp
        simp only [hp]
        simp only [Option.map_eq_some_iff] at hv
        obtain ⟨r, h1, rfl⟩ := hv
        obtain ⟨r', h2, h3⟩ := fill_sim hl (VRs.cv _) h1
        exact ⟨_, by rw [h2]; rfl, .agg _ _ h3⟩
      · cases hv
    · cases hv
theorem bsliceA_sim (h : Rel X d vs s) {l : List (Nat × AV)} {ev : Operand → Value} {ps : Array (Nat × Operand)} (hl : PR2 d l (evParts ev ps)) (t n : Nat) : Sim X d vs s (bsliceA X t n l vs) (aop X ev (.buildSlice t n ps) s) := by
  intro v vs' hv
  unfold bsliceA at hv
  simp only [aop]
  split at hv
  · rename_i e hu
    simp only [hu]
    split at hv
    · rename_i te ht
      simp only [ht]
      split at hv
      · rename_i hc
        rw [if_pos hc]
        split at hv
        · rename_i cs hf
          obtain ⟨r', h2, h3⟩ := fill_sim (cs' := (reps te.zero.cells.toList n).toArray) hl (by rw [List.toList_toArray]; exact VRs.cv _) hf
          simp only [h2]
          exact Sim.new h (OR.mk h3 _ _ _ _) (VR.newSl _ _) v vs' hv
        · cases hv
      · cases hv
    · cases hv
  · cases hv
theorem mksliceA_sim (h : Rel X d vs s) {ev : Operand → Value} {l c : AV} {lo co : Operand} (hl : VR d l (ev lo)) (hc : VR d c (ev co)) (t : Nat) : Sim X d vs s (mksliceA X t l c vs) (aop X ev (.makeSlice t lo co) s) := by
  intro v vs' hv
  unfold mksliceA at hv
  simp only [aop]
  split at hv
  · rename_i e _ n _ m hu
    generalize ev lo = x at hl
    generalize ev co = y at hc
    cases hl; cases hc
    simp only [hu]
    split at hv
    · rename_i te ht
      simp only [ht]
      split at hv
      · rename_i hc
        rw [if_pos hc]
        exact Sim.new h (OR.mk (VRs.cv _) _ _ _ _) (VR.newSl _ _) v vs' hv
      · cases hv
    · cases hv
  · cases hv
end Go.Proofs.Yticllcglldbffaa.Ab
end
section
namespace Go.Proofs.Yticllcglldbffaa.Ab
variable {X : Prg} {d : Wd} {vs : VS} {s : St}
def OptR (d : Wd) (o : Option AV) (o' : Option Value) : Prop := o.isSome = o'.isSome ∧ ∀ x v, o = some x → o' = some v → VR d x v
theorem OptR.mk {ev : Operand → AV} {ev' : Operand → Value} (h : ∀ x, VR d (ev x) (ev' x)) (o : Option Operand) : OptR d (o.map ev) (o.map ev') := by
  cases o with
  | none => exact ⟨rfl, fun x v h => by cases h⟩
  | some a => exact ⟨rfl, fun x v h1 h2 => by cases h1; cases h2; exact h a⟩
theorem OptR.none_iff {o : Option AV} {o' : Option Value} (h : OptR d o o') : o'.isNone = o.isNone := by
  have := h.1
  cases o <;> cases o' <;> simp_all
theorem OptR.unc_bnd {o : Option AV} {o' : Option Value} (h : OptR d o o') {a b n : Nat} (hb : bnd (o.map unc) a b = some n) : bnd o' a b = some n := bndA_ok h hb
theorem bnd_le {o : Option Value} {a b n : Nat} (h : bnd o a b = some n) : n ≤ b ∨ (o = none ∧ n = a) := by
  unfold bnd at h
  split at h
  · cases h; exact .inr ⟨rfl, rfl⟩
  · split at h
    · cases h; left; omega
    · cases h
  · cases h
theorem sliceOp_at {t : TypeId} {a : Addr} {len cap : Nat} {lo hi mx : Option Value} {r : Value} (h : sliceOp X t (.slice (some a) len cap) lo hi mx = some r) :
    ∃ n l c, r = .slice (some (Addr.fwd a n)) l c ∧ ∀ b, sliceOp X t (.slice (some b) len cap) lo hi mx = some (.slice (some (Addr.fwd b n)) l c) := by
  cases ht : X.ty t with
  | none => simp [sliceOp, ht] at h
  | some ty =>
    cases hu : ty.und with
    | slice e =>
      cases hte : X.ty e with
      | none => simp [sliceOp, ht, hu, hte] at h
      | some te =>
        simp only [sliceOp, ht, hu, hte] at h ⊢
        split at h
        · split at h
          · cases h
          · rename_i h1
            split at h
            · rename_i h2
              split at h
              · rename_i hh h3
                split at h
                · rename_i ll h4
                  cases h
                  exact ⟨_, _, _, rfl, fun b => by simp only [h1, if_pos h2, h3, h4, Bool.false_eq_true, if_false]⟩
                · cases h
              · cases h
            · cases h
        · cases h
        · split at h
          · rename_i hh h3
            split at h
            · rename_i ll h4
              cases h
              exact ⟨_, _, _, rfl, fun b => by simp only [h3, h4]⟩
            · cases h
          · cases h
    | _ => simp [sliceOp, ht, hu] at h
theorem sliceOp_ptr {t : TypeId} {a : Addr} {lo hi mx : Option Value} {r : Value} (h : sliceOp X t (.pointer (some a)) lo hi mx = some r) :
    ∃ n l c, r = .slice (some (Addr.fwd a n)) l c ∧ ∀ b, sliceOp X t (.pointer (some b)) lo hi mx = some (.slice (some (Addr.fwd b n)) l c) := by
  cases ht : X.ty t with
  | none => simp [sliceOp, ht] at h
  | some ty =>
    cases hu : ty.und with
    | array n e =>
      simp only [sliceOp, ht, hu] at h ⊢
      split at h
      · cases h
      · rename_i h1
        split at h
        · rename_i te hh hte h3
          split at h
          · rename_i ll h4
            cases h
            exact ⟨_, _, _, rfl, fun b => by simp only [h1, hte, h3, h4, Bool.false_eq_true, if_false]⟩
          · cases h
        · cases h
    | _ => simp [sliceOp, ht, hu] at h
theorem bnd_unc {o : Option AV} {o' : Option Value} (h : OptR d o o') {r : Value} {t : TypeId} {x : Value} {lo mx : Option AV} {lo' mx' : Option Value} (hl : OptR d lo lo') (hm : OptR d mx mx') (hr : sliceOp X t x (lo.map unc) (o.map unc) (mx.map unc) = some r) : sliceOp X t x lo' o' mx' = some r := by
  have hs1 : mx'.isSome = mx.isSome := hm.1.symm
  have hs2 : o'.isNone = o.isNone := h.none_iff
  have hm' : ∀ k i, mx.map unc = some (.int k i) → mx' = some (.int k i) := by
    intro k i he
    cases mx with
    | none => cases he
    | some m =>
      cases mx' with
      | none => simp at hs1
      | some m' =>
        have := hm.2 m m' rfl rfl
        simp only [Option.map_some, Option.some.injEq] at he
        rw [VR.unc_int this he]
  cases ht : X.ty t with
  | none => simp [sliceOp, ht] at hr
  | some ty =>
    unfold sliceOp at hr
    simp only [ht] at hr
    split at hr
    · rename_i b hu
      simp only [Option.isSome_map] at hr
      split at hr
      · cases hr
      · rename_i h1
        split at hr
        · rename_i hh h3
          split at hr
          · rename_i ll h4
            cases hr
            simp only [sliceOp, ht, hu, hs1, h1, h.unc_bnd h3, hl.unc_bnd h4, Bool.false_eq_true, if_false]
          · cases hr
        · cases hr
    · rename_i e len cap hu
      split at hr
      · cases hr
      · rename_i h0
        split at hr
        · rename_i z1 z2 z3 q1 q2 q3
          have e1 : ∃ w, mx'.elim (some 0) (fun v => bnd (some v) 0 0) = some w := by
            cases mx with
            | none => cases mx' with
              | none => exact ⟨0, rfl⟩
              | some _ => simp at hs1
            | some m =>
              cases mx' with
              | none => simp at hs1
              | some m' =>
                simp only [Option.map_some, Option.elim_some] at q1
                exact ⟨z1, bndA_ok (o := some m) (o' := some m') hm q1⟩
          obtain ⟨w, e1⟩ := e1
          simp only [Option.isSome_map, Option.isNone_map] at hr
          simp only [sliceOp, ht, hu, if_neg h0, e1, h.unc_bnd q2, hl.unc_bnd q3, hs1, hs2]
          exact hr
        · cases hr
    · rename_i e a len cap hu
      split at hr
      · cases hr
      · rename_i te hte
        split at hr
        · rename_i k m hmx
          simp only [Option.isNone_map] at hr
          split at hr
          · cases hr
          · rename_i h1
            split at hr
            · rename_i h2
              split at hr
              · rename_i hh h3
                split at hr
                · rename_i ll h4
                  simp only [sliceOp, ht, hu, hte, hm' k m hmx, hs2, h1, if_pos h2, h.unc_bnd h3, hl.unc_bnd h4, Bool.false_eq_true, if_false]
                  exact hr
                · cases hr
              · cases hr
            · cases hr
        · cases hr
        · rename_i hmx
          have : mx' = none := by
            cases mx with
            | none => cases mx' with
              | none => rfl
              | some _ => simp at hs1
            | some _ => simp at hmx
          subst this
          split at hr
          · rename_i hh h3
            split at hr
            · rename_i ll h4
              simp only [sliceOp, ht, hu, hte, h.unc_bnd h3, hl.unc_bnd h4]
              exact hr
            · cases hr
          · cases hr
    · rename_i n e a hu
      simp only [Option.isSome_map] at hr
      split at hr
      · cases hr
      · rename_i h1
        split at hr
        · rename_i te hh hte h3
          split at hr
          · rename_i ll h4
            simp only [sliceOp, ht, hu, hs1, h1, hte, h.unc_bnd h3, hl.unc_bnd h4, Bool.false_eq_true, if_false]
            exact hr
          · cases hr
        · cases hr
    · cases hr
theorem flatten_len {α : Type} {sz : Nat} : ∀ {xs : List (List α)}, (∀ x ∈ xs, x.length = sz) → xs.flatten.length = xs.length * sz
  | [], _ => by simp
  | x :: xs, h => by
    rw [List.flatten_cons, List.length_append, h x (by simp), flatten_len fun y hy => h y (by simp [hy]), List.length_cons, Nat.add_mul]; omega
theorem flatten_drop {α : Type} {sz : Nat} : ∀ {xs : List (List α)} (_ : ∀ x ∈ xs, x.length = sz) (n : Nat), (xs.drop n).flatten = xs.flatten.drop (n * sz)
  | xs, _, 0 => by simp
  | [], _, n + 1 => by simp
  | x :: xs, h, n + 1 => by
    have hx : x.length = sz := h x (by simp)
    rw [List.drop_succ_cons, flatten_drop (fun y hy => h y (by simp [hy])) n, List.flatten_cons, show (n + 1) * sz = x.length + n * sz by rw [hx, Nat.add_mul]; omega, List.drop_append]
    simp
theorem flatten_take {α : Type} {sz : Nat} : ∀ {xs : List (List α)} (_ : ∀ x ∈ xs, x.length = sz) (n : Nat), (xs.take n).flatten = xs.flatten.take (n * sz)
  | xs, _, 0 => by simp
  | [], _, n + 1 => by simp
  | x :: xs, h, n + 1 => by
    have hx : x.length = sz := h x (by simp)
    rw [List.take_succ_cons, List.flatten_cons, flatten_take (fun y hy => h y (by simp [hy])) n, List.flatten_cons, show (n + 1) * sz = x.length + n * sz by rw [hx, Nat.add_mul]; omega, List.take_append]
    rw [List.take_of_length_le (Nat.le_add_right _ _), Nat.add_sub_cancel_left]
theorem maxA_ok {mx : Option AV} {mx' : Option Value} (h : OptR d mx mx') {n m : Nat} (hr : maxA mx n = some m) : m ≤ n ∧ ((mx' = none ∧ m = n) ∨ ∃ k, mx' = some (.int k m)) := by
  unfold maxA at hr
  split at hr
  · cases hr
    have := h.1
    cases mx' with
    | none => exact ⟨Nat.le_refl _, .inl ⟨rfl, rfl⟩⟩
    | some _ => simp at this
  · rename_i k j
    split at hr
    · rename_i hc
      cases hr
      have hs := h.1
      cases mx' with
      | none => simp at hs
      | some v =>
        have := h.2 _ v rfl rfl
        cases this
        exact ⟨by omega, .inr ⟨k, by congr 2; omega⟩⟩
    · cases hr
  · cases hr
theorem bnd_mono {o : Option Value} {x y y' n : Nat} (h : bnd o x y = some n) (hy : y ≤ y') : bnd o x y' = some n := by
  unfold bnd at h ⊢
  cases o with
  | none => exact h
  | some v =>
    cases v with
    | int k i =>
      simp only at h ⊢
      split at h
      · rename_i hc; rw [if_pos (by omega)]; exact h
      · cases h
    | _ => exact h
theorem bnd_dflt {o : Option Value} {x x' y n : Nat} (h : bnd o x y = some n) (ho : o ≠ none) : bnd o x' y = some n := by
  cases o with
  | none => exact absurd rfl ho
  | some v => cases v <;> exact h
theorem cut_sim {sz : Nat} {xs : List (List AV)} {x' : Value} {t e : TypeId} {te : Ty} (hx : VR d (.lst sz xs) x') {lo hi mx : Option AV} {lo' hi' mx' : Option Value} (hl : OptR d lo lo') (hh : OptR d hi hi') (hm : OptR d mx mx')
    (hu : X.und t = some (.slice e)) (hte : X.ty e = some te) (hsz : te.size = sz) : SimV d (cutL sz xs lo hi mx) (sliceOp X t x' lo' hi' mx') := by
  intro v hv
  have hs1 : mx'.isSome = mx.isSome := hm.1.symm
  have hs2 : hi'.isNone = hi.isNone := hh.none_iff
  obtain ⟨ty, ht, hu⟩ : ∃ ty, X.ty t = some ty ∧ ty.und = .slice e := by
    unfold Prg.und at hu
    split at hu
    · rename_i ty h; exact ⟨ty, h, Option.some.inj hu⟩
    · cases hu
  unfold cutL at hv
  split at hv
  case h_2 => cases hv
  rename_i m e1
  obtain ⟨hmle, hmx⟩ := maxA_ok hm e1
  split at hv
  · cases hv
  rename_i hc
  split at hv
  case h_2 => cases hv
  rename_i h' e2
  have e2 := hh.unc_bnd e2
  split at hv
  case h_2 => cases hv
  rename_i l' e3
  have e3 := hl.unc_bnd e3
  have hl' : l' ≤ h' := by rcases bnd_le e3 with h | ⟨_, h⟩ <;> omega
  have hh' : h' ≤ m := by
    rcases bnd_le e2 with h | ⟨h, h2⟩
    · exact h
    · rcases hmx with ⟨_, h3⟩ | ⟨k, h3⟩
      · omega
      · exfalso
        rw [h] at hs2
        rw [h3] at hs1
        simp at hs1 hs2
        rw [hs1, hs2] at hc
        simp at hc
  cases hx with
  | lnil =>
    have h0 : m = 0 := by simpa using hmle
    subst h0
    have e4 : ∃ w, mx'.elim (some 0) (fun v => bnd (some v) 0 0) = some w := by
      rcases hmx with ⟨h3, _⟩ | ⟨k, h3⟩
      · subst h3; exact ⟨0, rfl⟩
      · subst h3; exact ⟨0, by simp [bnd]⟩
    obtain ⟨w, e4⟩ := e4
    have e5 : bnd lo' 0 0 = some l' := by
      have : h' = 0 := by omega
      subst this; exact e3
    have hr : sliceOp X t (.slice none 0 0) lo' hi' mx' = some (.slice none 0 0) := by
      simp only [List.length_nil] at e2
      simp only [sliceOp, ht, hu, e4, e2, e5, hs1, hs2, hte, Option.isSome_some, if_true, ne_eq, not_true_eq_false, if_false]
      rw [if_neg hc]
    refine ⟨_, hr, ?_⟩
    split at hv
    · cases hv; exact .enil
    · cases hv
      rw [List.drop_nil, List.take_nil]
      exact .lnil sz
  | lst _ _ a n cap o cs ds h1 h2 h3 h4 h5 h6 h7 =>
    subst h6
    have hn : xs.length = n := h2.symm
    have key : ∀ cap', h' - l' ≤ cap' / 2 → VR d (.lst sz ((xs.drop l').take (h' - l'))) (.slice (some (Addr.fwd a (l' * sz))) (h' - l') cap') := by
      intro cap' hcap
      have hlen : ((xs.drop l').take (h' - l')).length = h' - l' := by rw [List.length_take, List.length_drop]; omega
      have h8 : l' * sz + (h' - l') * sz ≤ n * sz := by rw [← Nat.add_mul]; exact Nat.mul_le_mul_right _ (by omega)
      have hm : ∀ x ∈ xs.drop l', x.length = sz := fun x hx => h4 x (List.mem_of_mem_drop hx)
      refine .lst sz _ _ _ cap' o _ _ h1 hlen.symm (rdO_sub h3 h8) (fun x hx => hm x (List.mem_of_mem_take hx)) hcap (flatten_take hm _).symm ?_
      rw [flatten_drop h4]
      exact (h7.drop _).take _
    rcases hmx with ⟨h3', h4'⟩ | ⟨k, h3'⟩
    · subst h3'
      have hmn : mx = none := by simpa using hs1.symm
      subst hmn
      subst h4'
      have e2' : bnd hi' n (cap / 2) = some h' := by
        rw [hn] at e2
        exact bnd_mono e2 h5
      have hr := fun q => show sliceOp X t (.slice (some a) n cap) lo' hi' none = some (.slice (some (Addr.fwd a (l' * sz))) (h' - l') q) ↔ _ from Iff.rfl
      simp only [Option.isSome_none, Bool.false_and, Bool.false_eq_true, if_false] at hv
      cases hv
      refine ⟨.slice (some (Addr.fwd a (l' * sz))) (h' - l') (if cap % 2 = 1 then capX (cap / 2 - l') else capO (cap / 2 - l')), ?_, key _ ?_⟩
      · simp only [sliceOp, ht, hu, hte, e2', e3, hsz]
      · split
        · unfold capX; omega
        · unfold capO; omega
    · subst h3'
      have hms : mx.isSome = true := by simpa using hs1.symm
      have hhs : hi.isNone = false := by
        cases hq : hi.isNone
        · rfl
        · rw [hms, hq] at hc; simp at hc
      rw [hhs] at hs2
      have hin : hi' ≠ none := by rintro rfl; simp at hs2
      have e2' : bnd hi' 0 m = some h' := bnd_dflt e2 hin
      have hr : sliceOp X t (.slice (some a) n cap) lo' hi' (some (.int k m)) = some (.slice (some (Addr.fwd a (l' * sz))) (h' - l') (capX (m - l'))) := by
        simp only [sliceOp, ht, hu, hte, hs2, Bool.false_eq_true, if_false]
        rw [if_pos (by omega)]
        simp only [Int.toNat_natCast, e2', e3, hsz]
      refine ⟨_, hr, ?_⟩
      split at hv
      · rename_i hq
        cases hv
        simp only [Bool.and_eq_true, beq_iff_eq] at hq
        have hq2 := hq.2
        have hz : h' - l' = 0 := by omega
        rw [hz, hq2]
        refine .emp _ o _ h1 ?_ rfl
        have hlm : l' * sz ≤ n * sz := Nat.mul_le_mul_right _ (by omega)
        have := rdO_sub (k := l' * sz) (m := 0) h3 (by omega)
        rw [List.take_zero] at this
        exact this
      · cases hv
        exact key _ (by unfold capX; omega)
theorem chunk_len {α : Type} (k : Nat) : ∀ (n : Nat) (l : List α), (chunk k n l).length = n
  | 0, _ => rfl
  | n + 1, l => by simp [chunk, chunk_len k n]
theorem chunk_each {α : Type} (k : Nat) : ∀ (n : Nat) (l : List α), n * k ≤ l.length → ∀ x ∈ chunk k n l, x.length = k
  | 0, _, _, x, hx => by simp [chunk] at hx
  | n + 1, l, h, x, hx => by
    rw [Nat.add_mul] at h
    simp only [chunk, List.mem_cons] at hx
    rcases hx with rfl | hx
    · rw [List.length_take]; omega
    · exact chunk_each k n (l.drop k) (by rw [List.length_drop]; omega) x hx
theorem chunk_flatten {α : Type} (k : Nat) : ∀ (n : Nat) (l : List α), (chunk k n l).flatten = l.take (n * k)
  | 0, l => by simp [chunk]
  | n + 1, l => by
    rw [chunk, List.flatten_cons, chunk_flatten k n, ← List.take_add, show (n + 1) * k = k + n * k by rw [Nat.add_mul]; omega]
theorem und_ty {t : TypeId} {q : TypeDesc} (hu : X.und t = some q) : ∃ ty, X.ty t = some ty ∧ ty.und = q := by
  unfold Prg.und at hu
  split at hu
  · rename_i ty h; exact ⟨ty, h, Option.some.inj hu⟩
  · cases hu
theorem reSl_some {o : Option Value} {v : AV} (h : reSl o = some v) : ∃ a l c, o = some (.slice (some a) l c) ∧ v = .sl a l c := by
  unfold reSl at h
  split at h
  · cases h; exact ⟨_, _, _, rfl, rfl⟩
  · cases h
theorem cutE_sim {x' : Value} (hx : VR d .emp x') {lo hi mx : Option AV} {lo' hi' mx' : Option Value} (hl : OptR d lo lo') (hh : OptR d hi hi') (hm : OptR d mx mx') (t : TypeId) (hv : cutE X t lo hi mx = some ()) :
    ∃ v', sliceOp X t x' lo' hi' mx' = some v' ∧ VR d .emp v' ∧ (x' = .slice none 0 0 → v' = .slice none 0 0) := by
  unfold cutE at hv
  split at hv
  · rename_i e hu
    obtain ⟨ty, ht, hu⟩ := und_ty hu
    split at hv
    · rename_i hc
      simp only [Bool.and_eq_true, Bool.not_eq_true', Bool.and_eq_false_iff] at hc
      obtain ⟨hte, hmi⟩ := hc
      obtain ⟨te, hte⟩ := Option.isSome_iff_exists.1 hte
      split at hv
      case h_2 => cases hv
      rename_i m h' l' e1 e2 e3
      cases hv
      obtain ⟨hm0, hmx⟩ := maxA_ok hm e1
      have e2 := hh.unc_bnd e2
      have e3 := hl.unc_bnd e3
      have hs1 : mx'.isSome = mx.isSome := hm.1.symm
      have hs2 : hi'.isNone = hi.isNone := hh.none_iff
      have hmi' : (mx'.isSome && hi'.isNone) = false := by
        rw [hs1, hs2]
        rcases hmi with h | h <;> simp [h]
      have e4 : ∃ w, mx'.elim (some 0) (fun v => bnd (some v) 0 0) = some w := by
        rcases hmx with ⟨h3, _⟩ | ⟨k, h3⟩
        · subst h3; exact ⟨0, rfl⟩
        · subst h3
          have : m = 0 := by omega
          subst this
          exact ⟨0, by simp [bnd]⟩
      obtain ⟨w, e4⟩ := e4
      have hl0 : l' = 0 := by rcases bnd_le e3 with h | ⟨_, h⟩ <;> omega
      have hh0 : h' = 0 := by rcases bnd_le e2 with h | ⟨_, h⟩ <;> omega
      subst hl0; subst hh0
      cases hx with
      | enil =>
        refine ⟨.slice none 0 0, ?_, .enil, fun _ => rfl⟩
        simp only [sliceOp, ht, hu, e4, e2, e3, hte, hmi', Option.isSome_some, if_true, ne_eq, not_true_eq_false, if_false, Bool.false_eq_true]
      | emp a o cap h1 h2 h3 =>
        subst h3
        refine ⟨.slice (some (Addr.fwd a 0)) 0 (capX 0), ?_, .emp _ o _ h1 h2 rfl, fun e => by cases e⟩
        rcases hmx with ⟨h3, _⟩ | ⟨k, h3⟩
        · subst h3
          have e2' : bnd hi' 0 (capX 0 / 2) = some 0 := e2
          simp only [sliceOp, ht, hu, hte, e2', e3, Nat.zero_mul, Nat.sub_zero]
          rfl
        · subst h3
          have : m = 0 := by omega
          subst this
          have hhf : hi'.isNone = false := by simpa using hmi'
          simp only [sliceOp, ht, hu, hte, hhf, Bool.false_eq_true, if_false, Nat.zero_mul, Nat.sub_zero]
          rw [if_pos ⟨Int.le_refl _, Int.natCast_nonneg _⟩]
          simp only [Int.toNat_natCast, e2, e3, Nat.zero_mul, Nat.sub_zero]
    · cases hv
  · cases hv
theorem sliceA_sim {x : AV} {x' : Value} (hx : VR d x x') {lo hi mx : Option AV} {lo' hi' mx' : Option Value} (hl : OptR d lo lo') (hh : OptR d hi hi') (hm : OptR d mx mx') (t : TypeId) : SimV d (sliceA X t x lo hi mx) (sliceOp X t x' lo' hi' mx') := by
  intro v hv
  unfold sliceA at hv
  split at hv
  · simp only [Option.map_eq_some_iff] at hv
    obtain ⟨u, h1, rfl⟩ := hv
    cases hx
    obtain ⟨v', g1, g2, g3⟩ := cutE_sim (.enil (d := d)) hl hh hm t h1
    rw [g3 rfl] at g1
    exact ⟨_, g1, .c _ rfl⟩
  · rename_i w _
    cases hx with | c _ hw =>
    simp only [Option.map_eq_some_iff] at hv
    obtain ⟨r, h1, rfl⟩ := hv
    exact ⟨r, bnd_unc hh hl hm h1, VR.cv r⟩
  · rename_i a len cap
    cases hx with | sl _ _ _ k hk =>
    obtain ⟨a1, l1, c1, h1, rfl⟩ := reSl_some hv
    have h1 := bnd_unc hh hl hm h1
    obtain ⟨n, l, c, h2, h3⟩ := sliceOp_at h1
    cases h2
    exact ⟨_, h3 _, .sl (Addr.fwd a n) _ _ k hk⟩
  · rename_i a
    cases hx with | ptr _ k hk =>
    obtain ⟨a1, l1, c1, h1, rfl⟩ := reSl_some hv
    have h1 := bnd_unc hh hl hm h1
    obtain ⟨n, l, c, h2, h3⟩ := sliceOp_ptr h1
    cases h2
    exact ⟨_, h3 _, .sl (Addr.fwd a n) _ _ k hk⟩
  · rename_i sz xs
    split at hv
    · rename_i e hu
      split at hv
      · rename_i te hte
        split at hv
        · rename_i hsz
          exact cut_sim hx hl hh hm hu hte hsz v hv
        · cases hv
      · cases hv
    · cases hv
  · simp only [Option.map_eq_some_iff] at hv
    obtain ⟨u, h1, rfl⟩ := hv
    obtain ⟨v', g1, g2, _⟩ := cutE_sim hx hl hh hm t h1
    exact ⟨v', g1, g2⟩
  · rename_i cs off
    cases hx with | fptr _ _ base a o ds h1 h2 h3 h4 =>
    split at hv
    · rename_i n e hu
      obtain ⟨ty, ht, hu⟩ := und_ty hu
      split at hv
      · rename_i te hte
        split at hv
        · rename_i hc
          simp only [Bool.and_eq_true, decide_eq_true_eq] at hc
          obtain ⟨hmn, hlen⟩ := hc
          split at hv
          · rename_i h' e2
            have e2 := hh.unc_bnd e2
            split at hv
            · rename_i l' e3
              have e3 := hl.unc_bnd e3
              cases hv
              have hl' : l' ≤ h' := by rcases bnd_le e3 with h | ⟨_, h⟩ <;> omega
              have hh' : h' ≤ n := by rcases bnd_le e2 with h | ⟨_, h⟩ <;> omega
              have hmx : mx'.isSome = false := by
                rw [← hm.1]; simpa using hmn
              have h8 : l' * te.size + (h' - l') * te.size ≤ n * te.size := by rw [← Nat.add_mul]; exact Nat.mul_le_mul_right _ (by omega)
              refine ⟨.slice (some (Addr.fwd a (l' * te.size))) (h' - l') (capX (n - l')), ?_, ?_⟩
              · simp only [sliceOp, ht, hu, hte, hmx, e2, e3, Bool.false_eq_true, if_false]
              · have h9 := rdO_sub (k := off + l' * te.size) (m := (h' - l') * te.size) h3 (by omega)
                refine .lst te.size _ _ _ _ o _ h1 (chunk_len _ _ _).symm (ds := ((ds.drop (off + l' * te.size)).take ((h' - l') * te.size))) ?_ (chunk_each _ _ _ (by rw [List.length_drop]; omega)) (by unfold capX; omega) (chunk_flatten _ _ _).symm ((h4.drop _).take _)
                show rdO o (ep a) (a.off + l' * te.size) _ = _
                rw [h2, Nat.add_assoc]; exact h9
            · cases hv
          · cases hv
        · cases hv
      · cases hv
    · cases hv
  · cases hv
end Go.Proofs.Yticllcglldbffaa.Ab
end
section
namespace Go.Proofs.Yticllcglldbffaa.Ab
variable {X : Prg} {d : Wd} {vs : VS} {s : St}
theorem bytes_sim (l : List UInt8) : VRs d ((bytesOut l).map .c) (bytesOut l) := VRs.map1 _ _ fun x hx => by
  unfold bytesOut at hx
  obtain ⟨b, _, rfl⟩ := List.mem_map.1 hx
  exact VR.int _ _
theorem convertA_sim (h : Rel X d vs s) {x : AV} {x' : Value} (hx : VR d x x') (src dst : TypeId) : Sim X d vs s (convertA X src dst x vs) (convertv X src dst x' s) := by
  intro v vs' hv
  unfold convertA at hv
  unfold convertv
  split at hv
  · rename_i ts td hts htd
    simp only [hts, htd]
    split at hv
    · rename_i a k b n h1 h2
      cases hx
      simp only [h1, h2]
      exact Sim.ret h (VR.int _ _) v vs' hv
    · rename_i a b n h1 h2
      cases hx
      simp only [h1, h2]
      exact Sim.ret h (VR.str _) v vs' hv
    · rename_i b h1 h2
      cases hx
      simp only [h1, h2]
      exact Sim.ret h (VR.str _) v vs' hv
    · rename_i e b h1 h2
      cases hx
      simp only [h1, h2]
      split at hv
      · rename_i h3
        simp only [h3]
        exact Sim.new h (OR.mk (bytes_sim _) _ _ _ _) (VR.newSl _ _) v vs' hv
      · cases hv
    · rename_i e x0 h1 h2
      simp only [h1, h2]
      split at hv
      · rename_i h3
        split at hv
        · cases hx with | c _ _ =>
          simp only [h3]
          exact Sim.ret h (VR.str _) v vs' hv
        · cases hx with
          | enil =>
            simp only [h3]
            exact Sim.ret h (VR.str _) v vs' hv
          | emp a o cap q1 q2 q3 =>
            simp only [h3, h.frd q1 q2, bytesIn]
            exact Sim.ret h (VR.str _) v vs' hv
        · rename_i xs
          simp only [Option.map_eq_some_iff, Option.bind_eq_some_iff, Prod.mk.injEq] at hv
          obtain ⟨l, ⟨ws, e1, e2⟩, rfl, rfl⟩ := hv
          cases hx with
          | lnil =>
            simp only [List.flatten_nil, lows, Option.some.injEq] at e1
            subst e1
            simp only [bytesIn, Option.some.injEq] at e2
            subst e2
            simp only [h3]
            exact Sim.ret h (VR.str _) _ _ rfl
          | lst _ _ a n cap o cs ds q1 q2 q3 q4 q5 q6 q7 =>
            subst q6
            have := q7.lows e1
            subst this
            rw [Nat.mul_one] at q3
            simp only [h3, h.frd q1 q3, e2]
            exact Sim.ret h (VR.str _) _ _ rfl
        · rename_i a len c
          simp only [Option.map_eq_some_iff, Option.bind_eq_some_iff, Prod.mk.injEq] at hv
          obtain ⟨l, ⟨ws, e0, us, e1, e2⟩, rfl, rfl⟩ := hv
          cases hx with | sl _ _ _ k hk =>
          obtain ⟨cs', e3, e4⟩ := h.rd hk e0
          have := e4.lows e1
          subst this
          simp only [h3, e3, e2]
          exact Sim.ret h (VR.str _) _ _ rfl
        · cases hv
      · cases hv
    · rename_i t a h1 h2
      cases hx with | ptr _ k hk =>
      simp only [h1, h2]
      split at hv
      · rename_i tt r htt hb
        obtain ⟨k', o', e1, e2, e3⟩ := h.live _ _ hb
        rw [hk] at e1; cases e1
        cases e3 with | own _ r' q =>
        split at hv
        · rename_i hc
          obtain ⟨c1, c2, c3⟩ := hc
          have hl := q.cs.length
          simp only [htt, e2]
          rw [if_pos ⟨c1, by rw [q.ep]; exact c2, by rw [← hl]; exact c3⟩]
          exact Sim.ret h (VR.ptr a k hk) v vs' hv
        · cases hv
      · cases hv
    · rename_i u a h1 h2
      cases hx with | ptr _ k hk =>
      simp only [h1, h2]
      split at hv
      · rename_i tu r htu hb
        obtain ⟨k', o', e1, e2, e3⟩ := h.live _ _ hb
        rw [hk] at e1; cases e1
        cases e3 with | own _ r' q =>
        split at hv
        · rename_i hc
          obtain ⟨c1, c2, c3, c4, c5⟩ := hc
          have hl := q.cs.length
          simp only [htu, e2]
          rw [if_pos ⟨c1, by rw [q.ep]; exact c2, c3, by rw [q.elem]; exact c4, by rw [← hl]; exact c5⟩]
          exact Sim.ret h (VR.ptr a k hk) v vs' hv
        · cases hv
      · cases hv
    · cases hv
  · cases hv
theorem MR.length {d : Wd} : ∀ {l : List VEnt} {l' : List MapEntry}, MR d l l' → l.length = l'.length
  | _, _, .nil => rfl
  | _, _, .cons _ _ _ _ _ _ _ h => by simp [MR.length h]
theorem lenA_sim (h : Rel X d vs s) {x : AV} {x' : Value} (hx : VR d x x') (t : TypeId) {n : Int} (hr : lenA X t x vs = some n) : lenv X t x' s = some n := by
  unfold lenA at hr
  unfold lenv
  split at hr
  · cases hr
  · rename_i ty ht
    simp only [ht]
    split at hr
    · rename_i b h1; cases hx; simp only [h1]; exact hr
    · rename_i e h1; cases hx; simp only [h1]; exact hr
    · rename_i e h1; cases hx <;> (simp only [h1]; exact hr)
    · rename_i e a n' c h1; cases hx; simp only [h1]; exact hr
    · rename_i e sz xs h1
      cases hx with
      | lnil => simp only [h1]; exact hr
      | lst _ _ a n cap o cs ds q1 q2 => subst q2; simp only [h1]; exact hr
    · rename_i k e h1; simp only [h1]; exact hr
    · rename_i k h1; simp only [h1]; exact hr
    · rename_i a b h1; cases hx; simp only [h1]; exact hr
    · rename_i a b r h1
      cases hx with | map _ k hk =>
      simp only [h1]
      split at hr
      · rename_i es clk hg
        obtain ⟨k1, o, e1, e2, e3⟩ := h.live _ _ hg
        rw [hk] at e1; cases e1
        cases e3 with | map _ es' _ q =>
        simp only [e2, ← q.length]; exact hr
      · cases hr
    · cases hr
theorem newv_other {t1 : TypeId} {te : Ty} {y' : Value} {q : TypeDesc} (hu : X.und t1 = some q) (hq : ∀ k, q = .int k → False) : newv X t1 te y' s = match lenOfv y' with
    | some n => (firstv s te.size n y').map fun l => (n, l)
    | none => none := by
  unfold newv
  rw [hu]
  cases q <;> first | rfl | exact (hq _ rfl).elim
theorem fromA_sim (h : Rel X d vs s) {y : AV} {y' : Value} (hy : VR d y y') (t1 : TypeId) (te : Ty) {n : Nat} {l : List AV} (hr : fromA X t1 te y vs = some (n, l)) : ∃ l', newv X t1 te y' s = some (n, l') ∧ VRs d l l' := by
  unfold fromA at hr
  split at hr
  · cases hr
  · rename_i k hu
    split at hr
    · cases hy
      split at hr
      · rename_i hc
        cases hr
        exact ⟨_, by simp only [newv, hu]; rw [if_pos hc], VRs.cv _⟩
      · cases hr
    · cases hr
  · rename_i q hni hu
    rw [newv_other hu hni]
    split at hr
    · cases hy
      cases hr
      exact ⟨[], rfl, .nil⟩
    · cases hr
      cases hy with
      | enil => exact ⟨[], rfl, .nil⟩
      | emp a o cap q1 q2 q3 =>
        refine ⟨[], ?_, .nil⟩
        simp only [lenOfv, firstv, Nat.zero_mul, h.frd q1 q2]
        rfl
    · cases hy
      split at hr
      · rename_i b hc
        cases hr
        refine ⟨_, ?_, bytes_sim _⟩
        have hz : ∀ b : ByteArray, b.data.toList.length ≤ b.size := fun b => Nat.le_of_eq Array.length_toList
        simp only [lenOfv, firstv]
        rw [if_pos ⟨Nat.le_refl _, hc⟩, List.take_of_length_le (hz _)]
        rfl
      · cases hr
    · rename_i sz xs
      split at hr
      · rename_i hsz
        cases hr
        cases hy with
        | lnil => exact ⟨[], rfl, .nil⟩
        | lst _ _ a n cap o cs ds q1 q2 q3 q4 q5 q6 q7 =>
          subst q6; subst q2; subst hsz
          refine ⟨ds, ?_, q7⟩
          simp only [lenOfv, firstv, h.frd q1 q3]
          rfl
      · cases hr
    · rename_i a m c
      cases hy with | sl _ _ _ k hk =>
      simp only [Option.map_eq_some_iff, Prod.mk.injEq] at hr
      obtain ⟨w, e1, rfl, rfl⟩ := hr
      obtain ⟨cs', e3, e4⟩ := h.rd hk e1
      refine ⟨cs', ?_, e4⟩
      simp only [lenOfv, firstv, e3]
      rfl
    · cases hr
theorem appendToA_sim (h : Rel X d vs s) {x : AV} {x' : Value} (hx : VR d x x') (te : Ty) (e n : Nat) {l : List AV} {l' : List Value} (hl : VRs d l l') : Sim X d vs s (appendToA te e n l x vs) (appendTo te e n l' x' s) := by
  intro v vs' hv
  unfold appendToA at hv
  split at hv
  · cases hx
    unfold appendTo
    simp only [ne_eq, not_true_eq_false, if_false]
    split at hv
    · rename_i hn
      rw [if_pos hn]
      exact Sim.ret h (.c _ rfl) v vs' hv
    · rename_i hn
      rw [if_neg hn]
      split at hv
      · rename_i hc
        rw [if_pos hc]
        exact Sim.new h (OR.mk hl _ _ _ _) (VR.newSl _ _) v vs' hv
      · cases hv
  · split at hv
    · rename_i hn
      cases hv
      refine ⟨x', s, d, ?_, hx, h, .refl d vs s⟩
      cases hx <;> simp [appendTo, hn]
    · rename_i hn
      split at hv
      · rename_i hc
        have hr : appendTo te e n l' x' s = some (.slice (some ⟨s.size, 0, none⟩) n (capO n), s.push (.own ⟨l', e, 0, 0, false⟩)) := by
          cases hx with
          | enil => simp [appendTo, hn, hc]
          | emp a o cap q1 q2 q3 =>
            subst q3
            have : ¬ (0 + n ≤ capX 0 / 2) := by
              have : capX 0 / 2 = 0 := rfl
              omega
            unfold appendTo
            simp only
            rw [if_neg hn, if_neg this, if_pos (by rfl), Nat.zero_add, if_pos hc, Nat.zero_mul, h.frd q1 q2]
            rfl
        rw [hr]
        exact Sim.new h (OR.mk hl _ _ _ _) (VR.newSl _ _) v vs' hv
      · cases hv
  · split at hv
    · rename_i hn
      cases hv
      refine ⟨x', s, d, ?_, hx, h, .refl d vs s⟩
      cases hx <;> simp [appendTo, hn]
    · cases hv
  · rename_i a len cap
    cases hx with | sl _ _ _ k hk =>
    unfold appendTo
    simp only
    split at hv
    · rename_i hn
      rw [if_pos hn]
      exact Sim.ret h (.sl a len cap k hk) v vs' hv
    · rename_i hn
      rw [if_neg hn]
      split at hv
      · rename_i hc
        rw [if_pos hc]
        simp only [Option.map_eq_some_iff, Prod.mk.injEq] at hv
        obtain ⟨w, e1, rfl, rfl⟩ := hv
        obtain ⟨s', e2, e3, e4⟩ := h.wr (a := Addr.fwd a (len * te.size)) hk hl e1
        refine ⟨.slice (some ⟨k, a.off, a.spot⟩) (len + n) cap, s', d, ?_, .sl a _ _ k hk, e3, e4⟩
        have e2 : s.wr (Addr.fwd ⟨k, a.off, a.spot⟩ (len * te.size)) l' = some s' := e2
        rw [e2]
      · rename_i hc
        rw [if_neg hc]
        split at hv
        · rename_i hodd
          rw [if_pos hodd]
          split at hv
          · rename_i hroom
            rw [if_pos hroom]
            simp only [Option.map_eq_some_iff, Prod.mk.injEq] at hv
            obtain ⟨w, e1, rfl, rfl⟩ := hv
            obtain ⟨cs', e3, e4⟩ := h.rd hk e1
            simp only [e3]
            exact Sim.new h (OR.mk (e4.append hl) _ _ _ _) (VR.newSl _ _) _ _ rfl
          · cases hv
        · rename_i hodd
          rw [if_neg hodd]
          split at hv
          · rename_i r hg
            obtain ⟨k1, o1, h1, h2, h3⟩ := h.live _ _ hg
            rw [hk] at h1; cases h1
            cases h3 with | own r r' q =>
            simp only [h2]
            split at hv
            · rename_i hc
              cases hv
              obtain ⟨c1, c2, c3, c4, c5, c6, c7, c8⟩ := hc
              have hc' : roomOk (len + n) te.bytes = true ∧ ep (⟨k, a.off, a.spot⟩ : Addr) = r'.ep ∧ a.off = 0 ∧ r'.cs.length = len * te.size ∧ r'.elem = e ∧ l'.all Value.oneCell' = true ∧ r'.frz ≤ len * te.size ∧ r'.str = false :=
                ⟨c1, by rw [q.ep]; exact c2, c3, by rw [← q.cs.length]; exact c4, by rw [q.elem]; exact c5, hl.one c6, by rw [q.frz]; exact c7, by rw [q.str]; exact c8⟩
              rw [if_pos hc', q.ep]
              obtain ⟨g1, g2⟩ := h.set (o' := .own ⟨r'.cs ++ l', r'.elem, r.ep + 1, r'.frz, r'.str⟩) hg hk (.own { r with cs := r.cs ++ l, ep := r.ep + 1 } _ ⟨q.cs.append hl, q.elem, rfl, q.frz, q.str⟩)
              exact ⟨_, _, d, rfl, .sl ⟨a.block, 0, some (r.ep + 1)⟩ _ _ k hk, g1, g2⟩
            · cases hv
          · cases hv
  · cases hv
theorem appendA_sim (h : Rel X d vs s) {x y : AV} {x' y' : Value} (hx : VR d x x') (hy : VR d y y') (ts : Array TypeId) : Sim X d vs s (appendA X ts x y vs) (appendv X ts x' y' s) := by
  intro v vs' hv
  unfold appendA at hv
  unfold appendv
  split at hv
  · rename_i t t1 e1 e2
    simp only [e1, e2]
    split at hv
    · rename_i e hu
      simp only [hu]
      split at hv
      · rename_i te hte
        simp only [hte]
        split at hv
        · rename_i n l hf
          obtain ⟨l', h1, h2⟩ := fromA_sim h hy t1 te hf
          simp only [h1]
          exact appendToA_sim h hx te e n h2 v vs' hv
        · cases hv
      · cases hv
    · cases hv
  · cases hv
theorem lenOfA_sim {y : AV} {y' : Value} (hy : VR d y y') {n : Nat} (h : lenOfA y = some n) : lenOfv y' = some n := by
  unfold lenOfA at h
  split at h
  · cases hy; exact h
  · cases hy <;> exact h
  · cases hy; exact h
  · cases hy with
    | lnil => exact h
    | lst _ _ a n cap o cs ds q1 q2 => subst q2; exact h
  · cases hy; exact h
  · cases h
theorem firstA_sim (h : Rel X d vs s) {y : AV} {y' : Value} (hy : VR d y y') (sz n : Nat) {l : List AV} (hr : firstA vs sz n y = some l) : ∃ l', firstv s sz n y' = some l' ∧ VRs d l l' := by
  unfold firstA at hr
  split at hr
  · cases hy
    split at hr
    · rename_i hn; cases hr; exact ⟨[], by simp [firstv, hn], .nil⟩
    · cases hr
  · split at hr
    · rename_i hn; cases hr
      cases hy with
      | enil => exact ⟨[], by simp [firstv, hn], .nil⟩
      | emp a o cap q1 q2 q3 => exact ⟨[], by simp only [firstv, hn, Nat.zero_mul, h.frd q1 q2], .nil⟩
    · cases hr
  · cases hy
    split at hr
    · rename_i hc; cases hr
      exact ⟨_, by simp only [firstv]; rw [if_pos hc], bytes_sim _⟩
    · cases hr
  · rename_i sz' xs
    split at hr
    · rename_i hc; cases hr
      cases hy with
      | lnil =>
        have : n = 0 := by simpa using hc.2
        subst this
        exact ⟨[], by simp [firstv], .nil⟩
      | lst _ _ a m cap o cs ds q1 q2 q3 q4 q5 q6 q7 =>
        subst q6
        have hle : n * sz' ≤ m * sz' := Nat.mul_le_mul_right _ (by omega)
        have q8 := rdO_sub (k := 0) (m := n * sz') q3 (by omega)
        refine ⟨ds.take (n * sz'), ?_, by rw [flatten_take q4]; exact q7.take _⟩
        simp only [firstv, hc.1]
        exact h.frd q1 q8
    · cases hr
  · cases hy with | sl _ _ _ k hk =>
    exact h.rd hk hr
  · cases hr
theorem copyA_sim (h : Rel X d vs s) {x y : AV} {x' y' : Value} (hx : VR d x x') (hy : VR d y y') (ts : Array TypeId) : Sim X d vs s (copyA X ts x y vs) (copyv X ts x' y' s) := by
  intro v vs' hv
  unfold copyA at hv
  unfold copyv
  split at hv
  · rename_i t e1
    simp only [e1]
    split at hv
    · rename_i e hu
      simp only [hu]
      split at hv
      · rename_i te dl m hte hdl hm
        have hm := lenOfA_sim hy hm
        split at hv
        · rename_i cs hf
          obtain ⟨cs', f1, f2⟩ := firstA_sim h hy _ _ hf
          have hd : ∃ base cap, x' = .slice base dl cap ∧ (base = none → dl = 0) := by
            unfold dstA at hdl
            split at hdl
            · cases hx; cases hdl; exact ⟨_, _, rfl, fun _ => rfl⟩
            · cases hdl; cases hx <;> exact ⟨_, _, rfl, fun _ => rfl⟩
            · cases hdl
              cases hx with
              | lnil => exact ⟨_, _, rfl, fun _ => rfl⟩
              | lst _ _ a n cap o cs ds q1 q2 => subst q2; exact ⟨_, _, rfl, fun h => by cases h⟩
            · cases hdl; cases hx; exact ⟨_, _, rfl, fun h => by cases h⟩
            · cases hdl
          obtain ⟨base, cap, rfl, hbase⟩ := hd
          simp only [hte, hm, f1]
          unfold copyToA at hv
          unfold copyTo
          split at hv
          · rename_i hn
            have hg : (match base with | none => if dl = 0 then some (Value.int .i64 ↑(Nat.min m dl), s) else none | some a => if Nat.min m dl = 0 then some (Value.int .i64 ↑(Nat.min m dl), s) else (s.wr a cs').map fun s' => (Value.int .i64 ↑(Nat.min m dl), s')) = some (.int .i64 0, s) := by
              cases base with
              | none => simp only [if_pos (hbase rfl), hn]; rfl
              | some a => simp only [if_pos hn, hn]; rfl
            obtain ⟨a1, a2, a3, a4, a5⟩ := Sim.ret h (VR.int .i64 0) v vs' hv
            exact ⟨a1, a2, a3, hg.trans a4, a5⟩
          · rename_i hn
            split at hv
            · rename_i a len c
              generalize hq : Value.slice base dl cap = z at hx
              cases hx with | sl _ _ _ k hk =>
              cases hq
              simp only [if_neg hn]
              simp only [Option.map_eq_some_iff, Prod.mk.injEq] at hv
              obtain ⟨w, e1, rfl, rfl⟩ := hv
              obtain ⟨s', e2, e3, e4⟩ := h.wr hk f2 e1
              exact ⟨_, s', d, by rw [e2]; rfl, VR.int _ _, e3, e4⟩
            · cases hv
        · cases hv
      · cases hv
    · cases hv
  · cases hv
theorem MR.get {d : Wd} : ∀ {l : List VEnt} {l' : List MapEntry}, MR d l l' → ∀ (dk : TypeDesc) (k : Value) (i : Nat) (r : Option (Nat × AV)), keyEqs dk k l i = some r →
    (r = none ∧ findE dk k l' i = some none) ∨ ∃ j v v', r = some (j, v) ∧ findE dk k l' i = some (some (j, v')) ∧ VR d v v'
  | _, _, .nil, dk, k, i, r, h => by
    simp only [keyEqs] at h; cases h
    exact .inl ⟨rfl, rfl⟩
  | _, _, .cons k0 v v' b l l' h1 h2, dk, k, i, r, h => by
    simp only [keyEqs] at h
    simp only [findE]
    split at h
    · rename_i e; cases h
      rw [e]
      exact .inr ⟨i, v, v', rfl, rfl, h1⟩
    · rename_i e
      rw [e]
      exact MR.get h2 dk k (i + 1) r h
    · cases h
theorem MR.append {d : Wd} : ∀ {l : List VEnt} {l' : List MapEntry}, MR d l l' → ∀ {m : List VEnt} {m' : List MapEntry}, MR d m m' → MR d (l ++ m) (l' ++ m')
  | _, _, .nil, _, _, h => h
  | _, _, .cons k v v' b l l' h1 h2, _, _, h => .cons k v v' b _ _ h1 (MR.append h2 h)
theorem MR.setVal {d : Wd} {v : AV} {v' : Value} (hv : VR d v v') : ∀ {l : List VEnt} {l' : List MapEntry}, MR d l l' → ∀ i, MR d (setValA l i v) (setVal l' i v')
  | _, _, .nil, i => by simp [setValA, Ab.setVal]; exact .nil
  | _, _, .cons k w w' b l l' h1 h2, 0 => by
    simp [setValA, Ab.setVal, List.modify_cons]
    exact .cons k v v' b _ _ hv h2
  | _, _, .cons k w w' b l l' h1 h2, i + 1 => by
    have := MR.setVal hv h2 i
    simp [setValA, Ab.setVal, List.modify_cons] at this ⊢
    exact .cons k w w' b _ _ h1 this
theorem MR.erase {d : Wd} : ∀ {l : List VEnt} {l' : List MapEntry}, MR d l l' → ∀ i, MR d (l.eraseIdx i) (l'.eraseIdx i)
  | _, _, .nil, i => by simp; exact .nil
  | _, _, .cons k w w' b l l' h1 h2, 0 => by simpa using h2
  | _, _, .cons k w w' b l l' h1 h2, i + 1 => by
    simp only [List.eraseIdx_cons_succ]
    exact .cons k w w' b _ _ h1 (MR.erase h2 i)
theorem entriesA_sim (h : Rel X d vs s) {m : AV} {m' : Value} (hm : VR d m m') {es : List VEnt} (hr : entriesA m vs = some es) : ∃ es', entries m' s = some es' ∧ MR d es es' := by
  unfold entriesA at hr
  split at hr
  · cases hm; cases hr; exact ⟨[], rfl, .nil⟩
  · cases hm with | map _ k hk =>
    split at hr
    · rename_i es0 clk hg
      cases hr
      obtain ⟨k1, o, e1, e2, e3⟩ := h.live _ _ hg
      rw [hk] at e1; cases e1
      cases e3 with | map _ es' _ q =>
      exact ⟨es', by simp only [entries, e2], q⟩
    · cases hr
  · cases hr
theorem lookupA_sim (h : Rel X d vs s) {m k : AV} {m' k' : Value} (hm : VR d m m') (hk : VR d k k') (t : TypeId) (ok : Bool) : SimV d (lookupA X t m k ok vs) (lookupv X t m' k' ok s) := by
  intro v hv
  unfold lookupA at hv
  unfold lookupv
  split at hv
  · rename_i kt et hu
    simp only [hu]
    split at hv
    · rename_i dk te es kv e1 e2 e3 e4
      obtain ⟨es', e5, e6⟩ := entriesA_sim h hm e3
      have := hk.low1 e4
      subst this
      simp only [e1, e2, e5]
      split at hv
      · rename_i hc
        rw [if_pos hc]
        split at hv
        · rename_i i w e7
          cases hv
          rcases e6.get _ _ _ _ e7 with ⟨h1, _⟩ | ⟨j, x, x', h1, h2, h3⟩
          · cases h1
          · cases h1
            simp only [h2]
            refine ⟨_, rfl, ?_⟩
            cases ok
            · exact h3
            · exact .tup _ _ (.cons _ _ _ _ h3 (.cons _ _ _ _ (VR.bool _) .nil))
        · rename_i e7
          cases hv
          rcases e6.get _ _ _ _ e7 with ⟨_, h2⟩ | ⟨j, x, x', h1, h2, h3⟩
          · simp only [h2]
            refine ⟨_, rfl, ?_⟩
            cases ok
            · exact VR.cv _
            · exact .tup _ _ (.cons _ _ _ _ (VR.cv _) (.cons _ _ _ _ (VR.bool _) .nil))
          · cases h1
        · cases hv
      · cases hv
    · cases hv
  · cases hv
theorem mapUpdateA_sim (h : Rel X d vs s) {m k v : AV} {m' k' v' : Value} (hm : VR d m m') (hk : VR d k k') (hv : VR d v v') (t : TypeId) : SimS X d vs s (mapUpdateA X t m k v vs) (mapUpdatev X t m' k' v' s) := by
  intro vs' hr
  unfold mapUpdateA at hr
  unfold mapUpdatev
  split at hr
  · rename_i kt et r kv hu e4
    have := hk.low1 e4
    subst this
    cases hm with | map _ c hc =>
    simp only [hu]
    split at hr
    · rename_i dk es clk e1 hg
      obtain ⟨k1, o, q1, q2, q3⟩ := h.live _ _ hg
      rw [hc] at q1; cases q1
      cases q3 with | map _ es' _ q =>
      simp only [e1, q2]
      split at hr
      · rename_i hcond
        rw [if_pos hcond]
        split at hr
        · rename_i i w e7
          cases hr
          rcases q.get _ _ _ _ e7 with ⟨h1, _⟩ | ⟨j, x, x', h1, h2, h3⟩
          · cases h1
          · cases h1
            simp only [h2]
            exact ⟨_, rfl, h.set hg hc (.map _ _ _ (q.setVal hv _))⟩
        · rename_i e7
          cases hr
          rcases q.get _ _ _ _ e7 with ⟨_, h2⟩ | ⟨j, x, x', h1, h2, h3⟩
          · simp only [h2]
            exact ⟨_, rfl, h.set hg hc (.map _ _ _ (q.append (.cons _ _ _ _ _ _ hv .nil)))⟩
          · cases h1
        · cases hr
      · cases hr
    · cases hr
  · cases hr
theorem deleteA_sim (h : Rel X d vs s) {m k : AV} {m' k' : Value} (hm : VR d m m') (hk : VR d k k') (t : TypeId) : SimS X d vs s (deleteA X t m k vs) (deletev X t m' k' s) := by
  intro vs' hr
  unfold deleteA at hr
  unfold deletev
  split at hr
  · rename_i kt et r kv hu e4
    have := hk.low1 e4
    subst this
    cases hm with | map _ c hc =>
    simp only [hu]
    split at hr
    · rename_i dk es clk e1 hg
      obtain ⟨k1, o, q1, q2, q3⟩ := h.live _ _ hg
      rw [hc] at q1; cases q1
      cases q3 with | map _ es' _ q =>
      simp only [e1, q2]
      split at hr
      · rename_i hcond
        rw [if_pos hcond]
        split at hr
        · rename_i i w e7
          cases hr
          rcases q.get _ _ _ _ e7 with ⟨h1, _⟩ | ⟨j, x, x', h1, h2, h3⟩
          · cases h1
          · cases h1
            simp only [h2]
            exact ⟨_, rfl, h.set hg hc (.map _ _ _ (q.erase _))⟩
        · rename_i e7
          cases hr
          rcases q.get _ _ _ _ e7 with ⟨_, h2⟩ | ⟨j, x, x', h1, h2, h3⟩
          · simp only [h2]
            exact ⟨_, rfl, h.set hg hc (.map _ _ _ q)⟩
          · cases h1
        · cases hr
      · cases hr
    · cases hr
  · cases hr
theorem clearA_sim (h : Rel X d vs s) {x : AV} {x' : Value} (hx : VR d x x') (ts : Array TypeId) : Sim X d vs s (clearA X ts x vs) (builtinv X .clear ts [x'] s) := by
  intro v vs' hv
  unfold clearA at hv
  simp only [builtinv]
  unfold clearv
  split at hv
  · rename_i t ht
    simp only [ht]
    split at hv
    · rename_i e hu
      unfold Prg.und at hu
      split at hu
      · rename_i ty hty
        simp only [Option.some.injEq] at hu
        simp only [hty, hu]
        split at hv
        · cases hx
          exact Sim.ret h VR.undef v vs' hv
        · rename_i a n c
          cases hx with | sl _ _ _ k hk =>
          simp only
          split at hv
          · rename_i hn
            rw [if_pos hn]
            exact Sim.ret h VR.undef v vs' hv
          · rename_i hn
            rw [if_neg hn]
            split at hv
            · rename_i te hte
              simp only [hte]
              simp only [Option.map_eq_some_iff, Prod.mk.injEq] at hv
              obtain ⟨w, e1, rfl, rfl⟩ := hv
              obtain ⟨s', e2, e3, e4⟩ := h.wr hk (VRs.cv _) e1
              exact ⟨_, s', d, by rw [e2]; rfl, VR.undef, e3, e4⟩
            · cases hv
        · cases hv
      · cases hu
    · cases hv
  · cases hv
theorem unsafeStrA_sim (h : Rel X d vs s) {x : AV} {x' : Value} (hx : VR d x x') (n : Int) (ts : Array TypeId) : Sim X d vs s (unsafeStrA X ts x n vs) (builtinv X .unsafeString ts [x', .int .i64 n] s) := by
  intro v vs' hv
  unfold unsafeStrA at hv
  split at hv
  · rename_i pt t2 hts
    split at hv
    · rename_i hn
      split at hv
      · cases hx with | ptr a k hk =>
        simp only [builtinv]
        unfold unsafeStr
        simp only [hts, if_pos hn]
        exact Sim.ret h (VR.str _) v vs' hv
      · cases hx
        simp only [builtinv]
        unfold unsafeStr
        simp only [hts, if_pos hn]
        exact Sim.ret h (VR.str _) v vs' hv
      · cases hv
    · rename_i hn
      split at hv
      · rename_i a
        cases hx with | ptr _ k hk =>
        simp only [builtinv]
        unfold unsafeStr
        simp only [hts, if_neg hn]
        split at hv
        · rename_i e r hu hb
          obtain ⟨k', o', e1, e2, e3⟩ := h.live _ _ hb
          rw [hk] at e1; cases e1
          cases e3 with | own _ r' q =>
          simp only [hu, e2]
          split at hv
          · rename_i te hte
            simp only [hte]
            split at hv
            · rename_i hc
              obtain ⟨c1, c2, c3, c4, c5, c6, c7⟩ := hc
              rw [if_pos ⟨c1, by rw [q.ep]; exact c2, c3, by rw [q.elem]; exact c4, c5, by rw [← q.cs.length]; exact c6, c7⟩]
              split at hv
              · rename_i l hl
                simp only [Option.bind_eq_some_iff] at hl
                obtain ⟨ws, w1, w2⟩ := hl
                have w3 := (q.cs.take n.toNat).lows w1
                rw [w3, w2]
                cases hv
                obtain ⟨g1, g2⟩ := h.set (o' := .own { r' with frz := max r'.frz n.toNat }) hb hk (.own { r with frz := max r.frz n.toNat } _ ⟨q.cs, q.elem, q.ep, by rw [q.frz], q.str⟩)
                exact ⟨_, _, d, rfl, VR.str _, g1, g2⟩
              · cases hv
            · cases hv
          · cases hv
        · cases hv
      · cases hv
  · cases hv
theorem builtinA_sim (h : Rel X d vs s) {args : List AV} {args' : List Value} (ha : VRs d args args') (b : Builtin) (ts : Array TypeId) : Sim X d vs s (builtinA X b ts args vs) (builtinv X b ts args' s) := by
  intro v vs' hv
  unfold builtinA at hv
  split at hv
  · rename_i x
    cases ha with | cons _ x' _ _ hx h2 =>
    cases h2
    simp only [builtinv]
    split at hv
    · rename_i t ht
      simp only [ht]
      simp only [Option.map_eq_some_iff, Prod.mk.injEq] at hv
      obtain ⟨n, e1, rfl, rfl⟩ := hv
      rw [lenA_sim h hx t e1]
      exact Sim.ret h (VR.int _ _) _ _ rfl
    · cases hv
  · cases ha with | cons _ x' _ _ hx h2 =>
    cases h2
    cases hx
    simp only [builtinv]
    split at hv
    · rename_i t ht
      simp only [ht]
      split at hv
      · rename_i e hu
        simp only [hu]
        exact Sim.ret h (VR.int _ _) v vs' hv
      · cases hv
    · cases hv
  · rename_i x y
    cases ha with | cons _ x' _ _ hx h2 =>
    cases h2 with | cons _ y' _ _ hy h3 =>
    cases h3
    exact appendA_sim h hx hy ts v vs' hv
  · rename_i x y
    cases ha with | cons _ x' _ _ hx h2 =>
    cases h2 with | cons _ y' _ _ hy h3 =>
    cases h3
    exact copyA_sim h hx hy ts v vs' hv
  · rename_i x
    cases ha with | cons _ x' _ _ hx h2 =>
    cases h2
    exact clearA_sim h hx ts v vs' hv
  · rename_i m k
    cases ha with | cons _ x' _ _ hx h2 =>
    cases h2 with | cons _ y' _ _ hy h3 =>
    cases h3
    simp only [builtinv]
    split at hv
    · rename_i t ht
      simp only [ht]
      exact Sim.ofS (fun d' => VR.undef) (deleteA_sim h hx hy t) v vs' hv
    · cases hv
  · cases ha with | cons _ x' _ _ hx h2 =>
    cases h2
    cases hx
    simp only [builtinv]
    exact Sim.ret h (.c _ rfl) v vs' hv
  · cases ha with | cons _ x' _ _ hx h2 =>
    cases h2
    cases hx with | sl a _ _ k hk =>
    simp only [builtinv]
    split at hv
    · rename_i hc
      rw [if_pos hc]
      exact Sim.ret h (.ptr _ k hk) v vs' hv
    · cases hv
  · rename_i p n
    cases ha with | cons _ x' _ _ hx h2 =>
    cases h2 with | cons _ y' _ _ hy h3 =>
    cases h3
    cases hy
    exact unsafeStrA_sim h hx n ts v vs' hv
  · rename_i x r
    cases ha with | cons _ x' _ r' hx h2 =>
    split at hv
    · rename_i w ws e1 e2
      have := hx.low1 e1
      subst this
      have := h2.lows e2
      subst this
      simp only [Option.map_eq_some_iff, Prod.mk.injEq] at hv
      obtain ⟨n, e1, rfl, rfl⟩ := hv
      simp only [builtinv, e1]
      exact Sim.ret h (VR.cv _) _ _ rfl
    · cases hv
  · rename_i x r
    cases ha with | cons _ x' _ r' hx h2 =>
    split at hv
    · rename_i w ws e1 e2
      have := hx.low1 e1
      subst this
      have := h2.lows e2
      subst this
      simp only [Option.map_eq_some_iff, Prod.mk.injEq] at hv
      obtain ⟨n, e1, rfl, rfl⟩ := hv
      simp only [builtinv, e1]
      exact Sim.ret h (VR.cv _) _ _ rfl
    · cases hv
  · cases hv
theorem oneNil_sim {x y : AV} {x' y' : Value} (hx : VR d x x') (hy : VR d y y') (t : TypeId) {b : Bool} (hr : oneNil X t x y = some b) : eqv X t x' y' = some b := by
  unfold oneNil at hr
  split at hr
  · rename_i hc
    cases hr
    rw [Bool.and_eq_true] at hc
    obtain ⟨hs, hf⟩ := hc
    unfold sameKind at hs
    have kf : ∀ {z : AV}, kindFits (X.und t) z = true → ∃ q, X.und t = some q := by
      intro z hz
      cases hq : X.und t with
      | none => rw [hq] at hz; simp [kindFits] at hz
      | some q => exact ⟨q, rfl⟩
    have hq : ∃ q, X.und t = some q := by
      rw [Bool.or_eq_true] at hf
      rcases hf with h | h <;> exact kf h
    obtain ⟨q, hq⟩ := hq
    rw [hq] at hf
    split at hs
    all_goals first
      | (cases hs; done)
      | (cases hx; cases hy; cases q <;> first | (simp [kindFits] at hf; done) | simp [eqv, eqv0, hq])
  · split at hr
    · rename_i hs
      cases hr
      unfold sameP at hs
      split at hs
      · split at hs
        · rename_i e hu
          split at hs
          · rename_i te hte
            obtain ⟨h1, rfl⟩ := of_decide_eq_true hs
            cases hx with | ptr _ k hk =>
            cases hy with | ptr _ k' hk' =>
            rw [hk] at hk'; cases hk'
            simp only [eqv, eqv0, hu, hte]
            rw [if_pos ⟨h1, trivial⟩]
          · cases hs
        · cases hs
      · cases hs
    · cases hr
theorem binA_sim {x y : AV} {x' y' : Value} (hx : VR d x x') (hy : VR d y y') (op : BinOp) (t : TypeId) : SimV d (binA X op t x y) (binOpv X op t x' y') := by
  intro v hv
  unfold binA at hv
  split at hv
  · rename_i a b e1 e2
    have h1 := hx.low e1
    have h2 := hy.low e2
    subst h1; subst h2
    simp only [Option.map_eq_some_iff] at hv
    obtain ⟨r, h3, rfl⟩ := hv
    exact ⟨r, h3, VR.cv r⟩
  · rename_i hno
    have gen : ∀ (b : Bool), eqv X t x' y' = some b → (∃ i j k l, x' = .int i j ∧ y' = .int k l) ∨ (∃ i j, x' = .string i ∧ y' = .string j) ∨ (binOpv X .eql t x' y' = some (.bool b) ∧ binOpv X .neq t x' y' = some (.bool (!b))) := by
      intro b hb
      by_cases h1 : ∃ i j k l, x' = .int i j ∧ y' = .int k l
      · exact .inl h1
      · by_cases h2 : ∃ i j, x' = .string i ∧ y' = .string j
        · exact .inr (.inl h2)
        · right; right
          constructor
          · unfold binOpv
            split <;> first | (rename_i hh; cases hh; done) | skip
            all_goals first
              | (exfalso; exact h1 ⟨_, _, _, _, rfl, rfl⟩)
              | (exfalso; exact h2 ⟨_, _, rfl, rfl⟩)
              | (rw [hb]; rfl)
              | simp_all
          · unfold binOpv
            split <;> first | (rename_i hh; cases hh; done) | skip
            all_goals first
              | (exfalso; exact h1 ⟨_, _, _, _, rfl, rfl⟩)
              | (exfalso; exact h2 ⟨_, _, rfl, rfl⟩)
              | (rw [hb]; rfl)
              | simp_all
    have ns : ∀ {b}, oneNil X t x y = some b → (¬ ∃ i j k l, x' = .int i j ∧ y' = .int k l) ∧ ¬ ∃ i j, x' = .string i ∧ y' = .string j := by
      intro b hb
      unfold oneNil at hb
      split at hb
      · rename_i hc
        rw [Bool.and_eq_true] at hc
        have hs := hc.1
        unfold sameKind at hs
        split at hs
        all_goals first
          | (cases hs; done)
          | (cases hx; cases hy; constructor <;> rintro ⟨_, _, h⟩ <;> simp at h)
      · split at hb
        · rename_i hs
          unfold sameP at hs
          split at hs
          · cases hx; cases hy
            constructor <;> rintro ⟨_, _, h⟩ <;> simp at h
          · cases hs
        · cases hb
    split at hv
    · simp only [Option.map_eq_some_iff] at hv
      obtain ⟨b, h3, rfl⟩ := hv
      rcases gen b (oneNil_sim hx hy t h3) with h | h | h
      · exact absurd h (ns h3).1
      · exact absurd h (ns h3).2
      · exact ⟨_, h.1, VR.bool _⟩
    · simp only [Option.map_eq_some_iff] at hv
      obtain ⟨b, h3, rfl⟩ := hv
      rcases gen b (oneNil_sim hx hy t h3) with h | h | h
      · exact absurd h (ns h3).1
      · exact absurd h (ns h3).2
      · exact ⟨_, h.2, VR.bool _⟩
    · cases hv
end Go.Proofs.Yticllcglldbffaa.Ab
end
