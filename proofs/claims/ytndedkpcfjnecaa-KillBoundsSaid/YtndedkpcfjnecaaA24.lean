/- Rules for cells of the run's own. -/
import Derived.Test.YtndedkpcfjnecaaA23
set_option linter.unusedSimpArgs false
set_option linter.unusedVariables false
namespace Go.Proofs.Ytndedkpcfjnecaa.Ab

theorem cells_int (k : IntKind) (n : Int) : (Value.int k n).cells = #[.int k n] := rfl
theorem cells_bool (b : Bool) : (Value.bool b).cells = #[.bool b] := rfl
theorem cells_string (b : ByteArray) : (Value.string b).cells = #[.string b] := rfl
theorem cells_ptr (a : Option Addr) : (Value.pointer a).cells = #[.pointer a] := rfl
theorem cells_slice (a : Option Addr) (l c : Nat) : (Value.slice a l c).cells = #[.slice a l c] := rfl
theorem cells_map (a : Option Nat) : (Value.map a).cells = #[.map a] := rfl
theorem cells_func (f : Fn) (a b : Array Value) : (Value.func f a b).cells = #[.func f a b] := rfl
theorem cells_nilFunc : (Value.nilFunc).cells = #[.nilFunc] := rfl
theorem cells_nilIface : (Value.nilIface).cells = #[.nilIface] := rfl
theorem cells_agg (a : Array Value) : (Value.agg a).cells = a := rfl
theorem one_int (k : IntKind) (n : Int) : (Value.int k n).oneCell' = true := rfl
theorem one_bool (b : Bool) : (Value.bool b).oneCell' = true := rfl
theorem one_string (b : ByteArray) : (Value.string b).oneCell' = true := rfl
theorem one_ptr (a : Option Addr) : (Value.pointer a).oneCell' = true := rfl
theorem one_slice (a : Option Addr) (l c : Nat) : (Value.slice a l c).oneCell' = true := rfl
theorem one_map (a : Option Nat) : (Value.map a).oneCell' = true := rfl
theorem one_func (f : Fn) (a b : Array Value) : (Value.func f a b).oneCell' = true := rfl
theorem one_nilFunc : (Value.nilFunc).oneCell' = true := rfl
theorem ptr_eq (b off : Nat) : ptr b off = .pointer (some ⟨b, off, none⟩) := rfl
theorem fwd_mk (b off k : Nat) (sp : Option Nat) : Addr.fwd ⟨b, off, sp⟩ k = ⟨b, off + k, sp⟩ := rfl
theorem fwd_block (a : Addr) (k : Nat) : (Addr.fwd a k).block = a.block := rfl

theorem size_push' (s : St) (o : AObj) : (s.push o).size = s.size + 1 := by have := St.size_push s o; omega
theorem size_set' (s : St) (b : Nat) (o : AObj) : (s.set b o).size = s.size := by have := St.size_set s b o; omega
/-! Reading and writing one row -/
def rdRow (r : Row) (off : Nat) (sp : Option Nat) (n : Nat) : Option (List Value) := if sp.getD 0 = r.ep ∧ off + n ≤ r.cs.length then some ((r.cs.drop off).take n) else none
theorem rdRow_mk (cs : List Value) (e ep frz : Nat) (str : Bool) (off : Nat) (sp : Option Nat) (n : Nat) : rdRow ⟨cs, e, ep, frz, str⟩ off sp n = if sp.getD 0 = ep ∧ off + n ≤ cs.length then some ((cs.drop off).take n) else none := rfl
section
variable {s : St} {b c off n : Nat} {sp : Option Nat} {o : AObj} {r : Row} {a : Addr} {k : Nat} {vs : List Value}
theorem rd_push_ne (h : b ≠ s.size) : (s.push o).rd ⟨b, off, sp⟩ n = s.rd ⟨b, off, sp⟩ n := by
  unfold St.rd
  rw [St.get_push, if_neg (fun e => h e.symm)]
theorem rd_push_ne' (h : a.block ≠ s.size) : (s.push o).rd a n = s.rd a n := by
  unfold St.rd
  rw [St.get_push, if_neg (fun e => h e.symm)]
theorem rd_push_nef (h : a.block ≠ s.size) : (s.push o).rd (Addr.fwd a k) n = s.rd (Addr.fwd a k) n := rd_push_ne' h
theorem rd_push_eq (h : b = s.size) : (s.push (.own r)).rd ⟨b, off, sp⟩ n = rdRow r off sp n := by
  subst h
  unfold St.rd
  rw [St.get_push, if_pos rfl]
  rfl
theorem get_set_ne (h : b ≠ c) : (s.set c o).get b = s.get b := by
  unfold St.get St.set
  simp only [Tr.get_set]
  split
  · rw [if_neg (fun e => h e.symm)]
  · rfl
theorem get_set_eq (h : b = c) (hb : b < s.size) : (s.set c o).get b = some o := by
  subst h
  unfold St.get St.set
  simp only [Tr.get_set]
  rw [if_pos hb]; simp
theorem get_push_ne (h : b ≠ s.size) : (s.push o).get b = s.get b := by rw [St.get_push, if_neg (fun e => h e.symm)]
theorem get_push_eq (h : b = s.size) : (s.push o).get b = some o := by rw [St.get_push, if_pos h.symm]
theorem rd_set_ne (h : b ≠ c) : (s.set c o).rd ⟨b, off, sp⟩ n = s.rd ⟨b, off, sp⟩ n := by
  unfold St.rd
  rw [get_set_ne h]
theorem rd_set_ne' (h : a.block ≠ c) : (s.set c o).rd a n = s.rd a n := by
  unfold St.rd
  rw [get_set_ne h]
theorem rd_set_nef (h : a.block ≠ c) : (s.set c o).rd (Addr.fwd a k) n = s.rd (Addr.fwd a k) n := rd_set_ne' h
theorem rd_set_eq (h : b = c) (hb : b < s.size) : (s.set c (.own r)).rd ⟨b, off, sp⟩ n = rdRow r off sp n := by
  unfold St.rd
  rw [get_set_eq h hb]
  rfl
def wrO (o : Option AObj) (s : St) (b off : Nat) (sp : Option Nat) (vs : List Value) : Option St := match o with
  | some (.own r) => if sp.getD 0 = r.ep ∧ off + vs.length ≤ r.cs.length ∧ r.frz ≤ off ∧ r.str = false ∧ vs.all Value.oneCell' = true then some (s.set b (.own { r with cs := over r.cs off vs })) else none
  | _ => none
theorem wr_mk : s.wr ⟨b, off, sp⟩ vs = wrO (s.get b) s b off sp vs := by
  unfold St.wr wrO
  rfl
theorem wrO_own (cs : List Value) (e ep frz : Nat) (str : Bool) : wrO (some (.own ⟨cs, e, ep, frz, str⟩)) s b off sp vs = if sp.getD 0 = ep ∧ off + vs.length ≤ cs.length ∧ frz ≤ off ∧ str = false ∧ vs.all Value.oneCell' = true then some (s.set b (.own ⟨over cs off vs, e, ep, frz, str⟩)) else none := rfl
theorem setF_setF {α : Type} : ∀ (n : Nat) (t : Tr α) (i : Nat) (v w : α), (t.setF n i v).setF n i w = t.setF n i w
  | 0, t, i, v, w => rfl
  | n + 1, .nil, i, v, w => by
    by_cases h : i = 0
    · simp [Tr.setF, h]
    · by_cases h2 : i % 2 = 1
      · simp [Tr.setF, h, h2, setF_setF n]
      · simp [Tr.setF, h, h2, setF_setF n]
  | n + 1, .node o l r, i, v, w => by
    by_cases h : i = 0
    · simp [Tr.setF, h]
    · by_cases h2 : i % 2 = 1
      · simp [Tr.setF, h, h2, setF_setF n]
      · simp [Tr.setF, h, h2, setF_setF n]
theorem set_set (o' : AObj) : (s.set b o).set b o' = s.set b o' := by
  unfold St.set Tr.set
  simp only [setF_setF]
theorem set_push (h : b = s.size) (o' : AObj) : (s.push o).set b o' = s.push o' := by
  subst h
  unfold St.set St.push Tr.set
  simp only [setF_setF]
end

/-! Values of parts -/
def fillL (place : Nat → Option (Nat × Nat)) (cs : List Value) : List (Nat × Value) → Option (List Value)
  | [] => some cs
  | (i, v) :: rest =>
    match place i with
    | none => none
    | some (off, size) => if v.cells.toList.length ≠ size ∨ off + v.cells.toList.length > cs.length then none else fillL place (over cs off v.cells.toList) rest
theorem over_get {cs vs : List Value} {off : Nat} (h : off + vs.length ≤ cs.length) (i : Nat) : (over cs off vs)[i]? = if i < off then cs[i]? else if i < off + vs.length then vs[i - off]? else cs[i]? := by
  have hmin : min off cs.length = off := by omega
  unfold over
  by_cases h1 : i < off
  · rw [if_pos h1, List.append_assoc, List.getElem?_append_left (by rw [List.length_take]; omega), List.getElem?_take, if_pos h1]
  · rw [if_neg h1, List.append_assoc, List.getElem?_append_right (by rw [List.length_take]; omega), List.length_take, hmin]
    by_cases h2 : i < off + vs.length
    · rw [if_pos h2, List.getElem?_append_left (by omega)]
    · rw [if_neg h2, List.getElem?_append_right (by omega), List.getElem?_drop]
      congr 1; omega
theorem over_len {cs vs : List Value} {off : Nat} (h : off + vs.length ≤ cs.length) : (over cs off vs).length = cs.length := by
  unfold over
  simp only [List.length_append, List.length_take, List.length_drop]
  omega
theorem foldl_over : ∀ (l : List Value) (j off : Nat) (cs : Array Value), off + j + l.length ≤ cs.size → (l.zipIdx j).foldl (fun cs (c, j) => cs.setIfInBounds (off + j) c) cs = (over cs.toList (off + j) l).toArray
  | [], j, off, cs, h => by simp [over]
  | v :: l, j, off, cs, h => by
    simp only [List.length_cons] at h
    have hsz : cs.toList.length = cs.size := Array.length_toList
    simp only [List.zipIdx_cons, List.foldl_cons]
    rw [foldl_over l (j + 1) off _ (by simp; omega)]
    congr 1
    apply List.ext_getElem?
    intro i
    rw [over_get (by simp; omega), over_get (by simp; omega)]
    simp only [Array.toList_setIfInBounds, List.length_cons, List.getElem?_set]
    by_cases h1 : i < off + j
    · rw [if_pos (by omega), if_neg (by omega), if_pos h1]
    · by_cases h2 : i = off + j
      · subst h2
        rw [if_pos (by omega), if_pos rfl, if_pos (by omega), if_neg h1, if_pos (by omega)]
        simp
      · rw [if_neg (by omega), if_neg h1]
        by_cases h3 : i < off + (j + 1) + l.length
        · rw [if_pos h3, if_pos (by omega)]
          have : i - (off + j) = (i - (off + (j + 1))) + 1 := by omega
          rw [this]; simp
        · rw [if_neg h3, if_neg (by omega), if_neg (by omega)]
theorem fill_list (place : Nat → Option (Nat × Nat)) : ∀ (parts : List (Nat × Value)) (cs : List Value), Instr.fill place cs.toArray parts = (fillL place cs parts).map List.toArray
  | [], cs => rfl
  | (i, v) :: rest, cs => by
    unfold Instr.fill fillL
    cases hp : place i with
    | none => rfl
    | some p =>
      obtain ⟨off, size⟩ := p
      simp only
      by_cases hc : v.cells.toList.length ≠ size ∨ off + v.cells.toList.length > cs.length
      · rw [if_pos (by simpa using hc), if_pos hc]; rfl
      · rw [if_neg (by simpa using hc), if_neg hc]
        rw [← fill_list place rest]
        congr 1
        have h2 : off + 0 + v.cells.toList.length ≤ cs.toArray.size := by simp at hc ⊢; omega
        have := foldl_over v.cells.toList 0 off cs.toArray h2
        rw [Nat.add_zero] at this
        rw [← Array.foldl_toList]
        simpa using this
theorem fillL_nil (place : Nat → Option (Nat × Nat)) (cs : List Value) : fillL place cs [] = some cs := rfl
def fillO (p : Option (Nat × Nat)) (place : Nat → Option (Nat × Nat)) (cs l : List Value) (rest : List (Nat × Value)) : Option (List Value) := match p with
  | none => none
  | some (off, size) => if l.length ≠ size ∨ off + l.length > cs.length then none else fillL place (over cs off l) rest
theorem fillL_cons (place : Nat → Option (Nat × Nat)) (cs : List Value) (i : Nat) (v : Value) (rest : List (Nat × Value)) : fillL place cs ((i, v) :: rest) = fillO (place i) place cs v.cells.toList rest := by
  unfold fillO
  rw [fillL]
theorem fillO_some (off size : Nat) (place : Nat → Option (Nat × Nat)) (cs l : List Value) (rest : List (Nat × Value)) : fillO (some (off, size)) place cs l rest = if l.length = size ∧ off + l.length ≤ cs.length then fillL place (over cs off l) rest else none := by
  unfold fillO
  simp only
  split
  · rw [if_neg (by omega)]
  · rw [if_pos (by omega)]
def mkmapv (X : Prg) (t : Nat) (s : St) : Option (Value × St) := match X.und t with
  | some (.map _ _) => some (.map (some s.size), s.push (.map [] 0))
  | _ => none
theorem O_makeMap {X : Prg} {ρ : Env} {s : St} {k : Value → St → Prop} {t : Nat} : opV X (.makeMap t none) ρ s k = contV (mkmapv X t s) k := opV_gen rfl
/-! '==' of other kinds -/
def undB (o : Option TypeDesc) (v : Value) : Option Value := match o with | some .bool => some v | _ => none
def undP (o : Option TypeDesc) (v : Value) : Option Value := match o with | some (.pointer _) => some v | _ => none
def undS (o : Option TypeDesc) (v : Value) : Option Value := match o with | some (.slice _) => some v | _ => none
def undM (o : Option TypeDesc) (v : Value) : Option Value := match o with | some (.map _ _) => some v | _ => none
theorem undB_bool {v : Value} : undB (some .bool) v = some v := rfl
theorem undP_ptr {v : Value} {e : TypeId} : undP (some (.pointer e)) v = some v := rfl
theorem undS_slice {v : Value} {e : TypeId} : undS (some (.slice e)) v = some v := rfl
theorem undM_map {v : Value} {a b : TypeId} : undM (some (.map a b)) v = some v := rfl
section
variable {X : Prg} {t : TypeId}
theorem eq_bool (a b : Bool) : binOpv X .eql t (.bool a) (.bool b) = undB (X.und t) (.bool (a == b)) := by
  simp only [binOpv, eqv, eqv0, undB]
  cases X.und t with
  | none => rfl
  | some d => cases d <;> rfl
theorem ne_bool (a b : Bool) : binOpv X .neq t (.bool a) (.bool b) = undB (X.und t) (.bool (!(a == b))) := by
  simp only [binOpv, eqv, eqv0, undB]
  cases X.und t with
  | none => rfl
  | some d => cases d <;> rfl
theorem eq_ptr_nil (b : Option Addr) : binOpv X .eql t (.pointer b) (.pointer none) = undP (X.und t) (.bool b.isNone) := by
  cases b <;> simp only [binOpv, eqv, eqv0, undP] <;> (cases X.und t with
  | none => rfl
  | some d => cases d <;> rfl)
theorem ne_ptr_nil (b : Option Addr) : binOpv X .neq t (.pointer b) (.pointer none) = undP (X.und t) (.bool b.isSome) := by
  cases b <;> simp only [binOpv, eqv, eqv0, undP] <;> (cases X.und t with
  | none => rfl
  | some d => cases d <;> rfl)
theorem eq_slice_nil (b : Option Addr) (l c l' c' : Nat) : binOpv X .eql t (.slice b l c) (.slice none l' c') = undS (X.und t) (.bool b.isNone) := by
  cases b <;> simp only [binOpv, eqv, eqv0, undS] <;> (cases X.und t with
  | none => rfl
  | some d => cases d <;> rfl)
theorem ne_slice_nil (b : Option Addr) (l c l' c' : Nat) : binOpv X .neq t (.slice b l c) (.slice none l' c') = undS (X.und t) (.bool b.isSome) := by
  cases b <;> simp only [binOpv, eqv, eqv0, undS] <;> (cases X.und t with
  | none => rfl
  | some d => cases d <;> rfl)
def aggO (o : Option Ty) : Bool := match o with | some ty => ty.agg | none => false
def flatO (o : Option (List FK)) (g : Bool) (x y : List Value) : Option Bool := match o, g with | some ks, true => flats ks x y | _, _ => none
def andO (a b : Option Bool) : Option Bool := match a, b with | some a, some b => some (a && b) | _, _ => none
theorem aggO_some {ty : Ty} : aggO (some ty) = ty.agg := rfl
theorem flatO_some {ks : List FK} {x y : List Value} : flatO (some ks) true x y = flats ks x y := rfl
theorem andO_some {a b : Bool} : andO (some a) (some b) = some (a && b) := rfl
theorem eqv_agg (xs ys : Array Value) : eqv X t (.agg xs) (.agg ys) = flatO (kindsOf X 8 t) (aggO (X.ty t)) xs.toList ys.toList := by
  simp only [eqv, aggO, flatO]
  cases X.ty t with
  | none => cases kindsOf X 8 t <;> rfl
  | some ty => cases kindsOf X 8 t with
    | none => rfl
    | some ks => cases h : ty.agg <;> simp [h]
theorem eq_agg (xs ys : Array Value) : binOpv X .eql t (.agg xs) (.agg ys) = (flatO (kindsOf X 8 t) (aggO (X.ty t)) xs.toList ys.toList).map .bool := by rw [← eqv_agg]; rfl
theorem ne_agg (xs ys : Array Value) : binOpv X .neq t (.agg xs) (.agg ys) = (flatO (kindsOf X 8 t) (aggO (X.ty t)) xs.toList ys.toList).map fun b => .bool (!b) := by rw [← eqv_agg]; rfl
theorem flats_nil : flats [] [] [] = some true := rfl
theorem flats_cons (k : FK) (ks : List FK) (x y : Value) (xs ys : List Value) : flats (k :: ks) (x :: xs) (y :: ys) = andO (flat k x y) (flats ks xs ys) := by
  simp only [flats, andO]
  cases flat k x y <;> cases flats ks xs ys <;> rfl
theorem flat_int (k : IntKind) (a b : Int) : flat (.int k) (.int k a) (.int k b) = some (decide (a = b)) := by
  simp only [flat, and_self, if_true]
  by_cases h : a = b <;> simp [h]
theorem flat_bool (a b : Bool) : flat .bool (.bool a) (.bool b) = some (a == b) := rfl
theorem flat_str (a b : ByteArray) : flat .str (.string a) (.string b) = some (a.data.toList == b.data.toList) := rfl
theorem flats_ints (k : IntKind) : ∀ (n : Nat) (A B : List Int), A.length = n → B.length = n → flats (kreps [.int k] n) (A.map (.int k)) (B.map (.int k)) = some (decide (A = B))
  | 0, [], [], _, _ => rfl
  | n + 1, a :: A, b :: B, hA, hB => by
    simp only [List.length_cons, Nat.add_right_cancel_iff] at hA hB
    show flats (.int k :: kreps [.int k] n) (.int k a :: A.map (.int k)) (.int k b :: B.map (.int k)) = _
    rw [flats_cons, flat_int, flats_ints k n A B hA hB, andO_some]
    congr 1
    rw [Bool.eq_iff_iff]
    simp
theorem eq_str (a b : ByteArray) : binOpv X .eql t (.string a) (.string b) = some (.bool (a.data.toList == b.data.toList)) := rfl
theorem ne_str (a b : ByteArray) : binOpv X .neq t (.string a) (.string b) = some (.bool (!(a.data.toList == b.data.toList))) := rfl
end

theorem aeqs_ints (k : IntKind) : ∀ (l : List Int) (n : Nat), l.length ≤ n → aeq.aeqs n (l.map (Value.int k)) (l.map (Value.int k)) = true
  | [], n, _ => by cases n <;> rfl
  | x :: l, 0, h => by simp at h
  | x :: l, n + 1, h => by
    simp only [List.map_cons, aeq.aeqs, aeqs_ints k l n (by simpa using h), Bool.and_true]
    cases n <;> simp [aeq]
theorem aeqSelf_ints (k : IntKind) (l : List Int) (h : l.length ≤ 900) : aeqSelf (.agg (l.map (Value.int k)).toArray) = True := by
  have := aeqs_ints k l 999 (by omega)
  unfold aeqSelf
  show (aeq.aeqs 999 _ _ = true) = True
  simp [this]
theorem all_ints (k : IntKind) (l : List Int) : (l.map (Value.int k)).all Value.oneCell' = true := by
  rw [List.all_eq_true]
  intro v hv
  obtain ⟨x, _, rfl⟩ := List.mem_map.1 hv
  rfl
theorem drop_at {α : Type} {l : List α} {i : Nat} {a : α} (h : l[i]? = some a) : l.drop i = a :: l.drop (i + 1) := by
  obtain ⟨h1, h2⟩ := List.getElem?_eq_some_iff.1 h
  rw [List.drop_eq_getElem_cons h1, h2]
theorem set_mid {cs : List Value} {j : Nat} {v : Value} (h : j < cs.length) : List.take j cs ++ [v] ++ List.drop (j + 1) cs = cs.set j v := by
  rw [List.set_eq_take_append_cons_drop, if_pos h]; simp
theorem rd_own {s : St} {b off n : Nat} {sp : Option Nat} {cs : List Value} {e ep frz : Nat} {str : Bool} (h : s.get b = some (.own ⟨cs, e, ep, frz, str⟩)) (hc : sp.getD 0 = ep ∧ off + n ≤ cs.length) : s.rd ⟨b, off, sp⟩ n = some ((cs.drop off).take n) := by
  unfold St.rd
  simp only [h]
  exact if_pos hc
theorem rd_own1 {s : St} {b off : Nat} {cs : List Value} {e frz : Nat} {str : Bool} {v : Value} (h : s.get b = some (.own ⟨cs, e, 0, frz, str⟩)) (hv : cs[off]? = some v) : s.rd ⟨b, off, none⟩ 1 = some [v] := by
  obtain ⟨h1, h2⟩ := List.getElem?_eq_some_iff.1 hv
  rw [rd_own h ⟨rfl, by omega⟩, List.drop_eq_getElem_cons h1, h2]
  rfl

/-! Rows of constants, as the code has them -/
def partsOf (c : Code) (j : Nat) : List (Nat × Operand) := match c with
  | .region _ ops _ => match ops[j]? with
    | some o => match o.op with | .buildSlice _ _ ps => ps.toList | _ => []
    | none => []
  | _ => []
def constI : Operand → Option (IntKind × Int)
  | .const (.int k v) => some (k, v)
  | _ => none
theorem constI_some {x : Operand} {k : IntKind} {v : Int} (h : constI x = some (k, v)) : x = .const (.int k v) := by
  unfold constI at h
  split at h
  · cases h; rfl
  · cases h
def intsOf (k : IntKind) : List (Nat × Operand) → Nat → Option (List Int)
  | [], _ => some []
  | p :: r, j => match constI p.2 with
    | some q => if p.1 = j ∧ q.1 = k then (intsOf k r (j + 1)).map (q.2 :: ·) else none
    | none => none
def intsAt (k : IntKind) (c : Code) (j : Nat) : List Int := (intsOf k (partsOf c j) 0).getD []
def strAt (c : Code) (j : Nat) : ByteArray := match c with
  | .region _ ops _ => match ops[j]? with
    | some o => match o.op with | .assign (.const (.string b)) => b | _ => .empty
    | none => .empty
  | _ => .empty
theorem fill_ints (k : IntKind) (ev : Operand → Value) (hev : ∀ v, ev (.const v) = v) : ∀ (ps : List (Nat × Operand)) (j : Nat) (l : List Int) (cs : List Value), intsOf k ps j = some l → j + l.length = cs.length →
    fillL (fun i => some (i * 1, 1)) cs (ps.map fun p => (p.1, ev p.2)) = some (cs.take j ++ l.map (.int k))
  | [], j, l, cs, h, hl => by
    simp only [intsOf, Option.some.injEq] at h; subst h
    simp only [List.length_nil] at hl
    rw [List.map_nil, fillL, List.take_of_length_le (by omega)]; simp
  | (i, x) :: r, j, l, cs, h, hl => by
    simp only [intsOf] at h
    split at h
    · rename_i q hq
      obtain ⟨k', v⟩ := q
      obtain rfl := constI_some hq
      split at h
      · rename_i hc
        simp only at hc
        obtain ⟨rfl, rfl⟩ := hc
        rw [Option.map_eq_some_iff] at h
        obtain ⟨l', h1, rfl⟩ := h
        simp only [List.length_cons] at hl
        rw [List.map_cons, fillL_cons, fillO_some]
        simp only [hev]
        have e3 : (Value.int k' v).cells.toList = [.int k' v] := rfl
        rw [e3, if_pos (by simp; omega)]
        rw [fill_ints k' ev hev _ _ l' _ h1 (by rw [over_len (by simp; omega)]; omega)]
        congr 1
        have e4 : List.take i cs ++ List.map (Value.int k') (v :: l') = (List.take i cs ++ [.int k' v]) ++ List.map (Value.int k') l' := by simp
        rw [e4]
        congr 1
        have hlt : i < cs.length := by omega
        apply List.ext_getElem?
        intro n
        rw [List.getElem?_take, over_get (by simp; omega)]
        simp only [Nat.mul_one, List.length_singleton]
        rcases Nat.lt_trichotomy n i with h2 | h2 | h2
        · rw [if_pos (by omega), if_pos h2, List.getElem?_append_left (by simp; omega), List.getElem?_take, if_pos h2]
        · subst h2
          rw [if_pos (by omega), if_neg (by omega), if_pos (by omega), List.getElem?_append_right (by simp; omega)]
          simp [Nat.min_eq_left (Nat.le_of_lt hlt)]
        · rw [if_neg (by omega), List.getElem?_append_right (by simp; omega)]
          rw [List.getElem?_eq_none (by simp; omega)]
      · cases h
    · cases h
theorem reps_len (z : List Value) : ∀ n, (reps z n).length = n * z.length
  | 0 => by simp [reps]
  | n + 1 => by simp [reps, reps_len z n, Nat.succ_mul]; omega
def bsliceP (X : Prg) (t n : Nat) (ρ : Env) (ps : Array (Nat × Operand)) (s : St) : Option (Value × St) := bslicev X t n (evParts (evo ρ) ps) s
theorem bsliceP_eq {X : Prg} {t n : Nat} {ρ : Env} {ps : Array (Nat × Operand)} {s : St} : bsliceP X t n ρ ps s = bslicev X t n (evParts (evo ρ) ps) s := rfl
theorem O_buildSlice' {X : Prg} {ρ : Env} {s : St} {k : Value → St → Prop} {t n : Nat} {ps : Array (Nat × Operand)} : opV X (.buildSlice t n ps) ρ s k = contV (bsliceP X t n ρ ps s) k := O_buildSlice
theorem bslice_ints {X : Prg} {t e n b : Nat} {k : IntKind} {z : Int} {ρ : Env} {ps : Array (Nat × Operand)} {s : St} {l : List Int} (hu : X.und t = some (.slice e)) (hte : X.ty e = some ⟨.int k, 1, b, .int k z⟩) (hl : intsOf k ps.toList 0 = some l) (hn : l.length = n) (hs : Nat.ble n 65536 = true) :
    bsliceP X t n ρ ps s = some (.slice (some ⟨s.size, 0, none⟩) n (capX n), s.push (.own ⟨l.map (.int k), e, 0, 0, false⟩)) := by
  have hs := Nat.le_of_ble_eq_true hs
  unfold bsliceP bslicev evParts
  simp only [hu, hte, cells_int]
  rw [if_pos (by omega), fill_list, fill_ints k (evo ρ) (fun _ => rfl) _ 0 l _ hl (by rw [reps_len]; simp; omega)]
  simp
theorem bslice_zero {X : Prg} {t e : Nat} {ρ : Env} {s : St} {te : Ty} (hu : X.und t = some (.slice e)) (hte : X.ty e = some te) :
    bsliceP X t 0 ρ #[] s = some (.slice (some ⟨s.size, 0, none⟩) 0 (capX 0), s.push (.own ⟨[], e, 0, 0, false⟩)) := by
  unfold bsliceP bslicev evParts
  simp [hu, hte, reps, fillL, Instr.fill]
def withinL (v : Int) : List Int → Bool
  | a :: b :: l => (decide (a ≤ v) && decide (v ≤ b)) || withinL v l
  | _ => false
/-- A slice of whole numbers, readable. -/
theorem rd_ints {s : St} {a : Addr} {k : IntKind} {l : List Int} (h : s.rd a l.length = some (l.map (.int k))) {i : Nat} {x : Int} (hi : l[i]? = some x) : s.rd (Addr.fwd a i) 1 = some [.int k x] :=
  rd_at h (by rw [List.getElem?_map, hi]; rfl)
theorem map_some' {α β : Type} (f : α → β) (a : α) : (some a).map f = some (f a) := rfl
attribute [irreducible] bsliceP
end Go.Proofs.Ytndedkpcfjnecaa.Ab
