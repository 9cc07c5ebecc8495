/- Rules of values and stores for the simplifier. -/
import Derived.Test.YticllcglldbffaaD2
import Derived.Test.YticllcglldbffaaC4
set_option linter.unusedSimpArgs false
set_option linter.unusedVariables false
set_option linter.unusedSectionVars false
section
namespace Go.Proofs.Yticllcglldbffaa.Ab
variable {X : Prg} {ρ : AEnv} {s : VS}
theorem pA_some (ρ : AEnv) (d : Nat) (v : AV) : ρ.put (some d) v = ρ.set d v := rfl
theorem pA_none (ρ : AEnv) (v : AV) : ρ.put none v = ρ := rfl
theorem eA_tmp (ρ : AEnv) (t : Nat) : evA X ρ (.tmp t) = ρ.get t := rfl
theorem eA_const (ρ : AEnv) (v : Value) : evA X ρ (.const v) = cv v := rfl
theorem eA_func (ρ : AEnv) (f : FuncId) : evA X ρ (.func f) = .fn f [] [] := rfl
theorem eA_glob (ρ : AEnv) (g : Nat) : evA X ρ (.global g) = globA X g := rfl
theorem fillA_get : ∀ (l : List AV) (i : Nat) (ρ : AEnv) (t : Nat), (AEnv.fill i l ρ).get t = if i ≤ t ∧ t < i + l.length then l.getD (t - i) (.c undef) else ρ.get t
  | [], i, ρ, t => by
    rw [if_neg (by simp only [List.length_nil]; omega)]; rfl
  | v :: l, i, ρ, t => by
    rw [AEnv.fill, fillA_get l (i + 1), AEnv.get_set]
    by_cases h : i = t
    · subst h
      rw [if_neg (by omega), if_pos rfl, if_pos (by simp)]
      simp
    · rw [if_neg h]
      by_cases h1 : i + 1 ≤ t ∧ t < i + 1 + l.length
      · rw [if_pos h1, if_pos (by simp; omega)]
        have : t - i = (t - (i + 1)) + 1 := by omega
        rw [this]; simp
      · rw [if_neg h1, if_neg (by simp; omega)]
theorem ofA_get (l : List AV) (t : Nat) : (AEnv.of l).get t = l.getD t (.c undef) := by
  unfold AEnv.of
  rw [fillA_get]
  split
  · simp
  · rename_i h
    rw [List.getD_eq_getElem?_getD, List.getElem?_eq_none (by omega)]
    rfl
theorem cv_int (k : IntKind) (n : Int) : cv (.int k n) = .c (.int k n) := rfl
theorem cv_bool (b : Bool) : cv (.bool b) = .c (.bool b) := rfl
theorem cv_string (b : ByteArray) : cv (.string b) = .c (.string b) := rfl
theorem cv_ptr : cv (.pointer none) = .c (.pointer none) := rfl
theorem cv_slice : cv (.slice none 0 0) = .c (.slice none 0 0) := rfl
theorem cv_map : cv (.map none) = .c (.map none) := rfl
theorem cv_nilFunc : cv .nilFunc = .c .nilFunc := rfl
theorem cv_nilIface : cv .nilIface = .c .nilIface := rfl
theorem cv_agg (cs : Array Value) : cv (.agg cs) = if cs.toList.all atomV = true then .agg (cs.toList.map .c) else .bad := rfl
theorem at_int (k : IntKind) (n : Int) : atomV (.int k n) = true := rfl
theorem at_bool (b : Bool) : atomV (.bool b) = true := rfl
theorem at_string (b : ByteArray) : atomV (.string b) = true := rfl
theorem at_ptr : atomV (.pointer none) = true := rfl
theorem at_slice : atomV (.slice none 0 0) = true := rfl
theorem at_map : atomV (.map none) = true := rfl
theorem at_nilFunc : atomV .nilFunc = true := rfl
theorem bo_c (b : Bool) : boolA (.c (.bool b)) = some b := rfl
theorem fu_fn (f : Nat) (a b : List AV) : funA (.fn f a b) = some (f, a, b) := rfl
theorem tu_tup (vs : List AV) (i : Nat) : tupA (.tup vs) i = vs[i]? := rfl
theorem pk_true (a b : AV) : pickA (some true) a b = some a := rfl
theorem pk_false (a b : AV) : pickA (some false) a b = some b := rfl
theorem lo_c (v : Value) : low1 (.c v) = some v := rfl
theorem los_nil : lows [] = some [] := rfl
theorem los_cons (v : Value) (l : List AV) : lows (.c v :: l) = (lows l).map (v :: ·) := by
  simp only [lows, low1]
  cases lows l <;> rfl
theorem los_map (l : List Value) : lows (l.map .c) = some l := by
  induction l with
  | nil => rfl
  | cons v l ih => rw [List.map_cons, los_cons, ih]; rfl
def eqAggA (X : Prg) (t : TypeId) (a b : Option (List Value)) : Option Bool := match a, b with
  | some a, some b => flatO (kindsOf X 8 t) (aggO (X.ty t)) a b
  | _, _ => none
theorem ea_some (t : TypeId) (a b : List Value) : eqAggA X t (some a) (some b) = flatO (kindsOf X 8 t) (aggO (X.ty t)) a b := rfl
theorem bi_eqagg (t : TypeId) (xs ys : List AV) : binA X .eql t (.agg xs) (.agg ys) = (eqAggA X t (lows xs) (lows ys)).map fun r => .c (.bool r) := by
  simp only [binA, low]
  cases lows xs <;> cases lows ys <;> simp only [Option.map_some, Option.map_none, eqAggA] <;> first | rfl | skip
  rw [eq_agg, List.toList_toArray, List.toList_toArray]
  cases flatO (kindsOf X 8 t) (aggO (X.ty t)) _ _ <;> rfl
theorem bi_neagg (t : TypeId) (xs ys : List AV) : binA X .neq t (.agg xs) (.agg ys) = (eqAggA X t (lows xs) (lows ys)).map fun r => .c (.bool (!r)) := by
  simp only [binA, low]
  cases lows xs <;> cases lows ys <;> simp only [Option.map_some, Option.map_none, eqAggA] <;> first | rfl | skip
  rw [ne_agg, List.toList_toArray, List.toList_toArray]
  cases flatO (kindsOf X 8 t) (aggO (X.ty t)) _ _ <;> rfl
def nilQ (o : Option TypeDesc) (x : AV) (b : Bool) : Option AV := if kindFits o x = true then some (.c (.bool b)) else none
theorem nq_ptr (e : TypeId) (a : Addr) (b : Bool) : nilQ (some (.pointer e)) (.ptr a) b = some (.c (.bool b)) := rfl
theorem nq_fptr (e : TypeId) (cs : List AV) (o : Nat) (b : Bool) : nilQ (some (.pointer e)) (.fptr cs o) b = some (.c (.bool b)) := rfl
theorem nq_sl (e : TypeId) (a : Addr) (l c : Nat) (b : Bool) : nilQ (some (.slice e)) (.sl a l c) b = some (.c (.bool b)) := rfl
theorem nq_lst (e : TypeId) (sz : Nat) (xs : List (List AV)) (b : Bool) : nilQ (some (.slice e)) (.lst sz xs) b = some (.c (.bool b)) := rfl
theorem nq_map (e e' : TypeId) (r : Nat) (b : Bool) : nilQ (some (.map e e')) (.map r) b = some (.c (.bool b)) := rfl
theorem nq_fn (p q : Array TypeId) (v : Bool) (f : Nat) (x y : List AV) (b : Bool) : nilQ (some (.func p q v)) (.fn f x y) b = some (.c (.bool b)) := rfl
section
variable {t : TypeId}
theorem sameP_c {x : AV} {v : Value} : sameP X t x (.c v) = false := by cases x <;> rfl
theorem nil_gen {x : AV} {v : Value} (h1 : low x = none) (h2 : sameKind x (.c v) = true) (h3 : kindFits (X.und t) (.c v) = false) : binA X .eql t x (.c v) = nilQ (X.und t) x false ∧ binA X .neq t x (.c v) = nilQ (X.und t) x true := by
  simp only [binA, h1, oneNil, h2, h3, Bool.or_false, Bool.true_and, nilQ, sameP_c]
  cases kindFits (X.und t) x <;> exact ⟨rfl, rfl⟩
theorem kf_c (o : Option TypeDesc) (v : Value) : kindFits o (.c v) = false := by
  cases o with
  | none => rfl
  | some q => cases q <;> rfl
def eqPQ (o : Option Ty) (a b : Addr) (r : Bool) : Option AV := match o with
  | some te => if te.size ≠ 0 ∧ a = b then some (.c (.bool r)) else none
  | none => none
def eqPP (X : Prg) (o : Option TypeDesc) (a b : Addr) (r : Bool) : Option AV := match o with
  | some (.pointer e) => eqPQ (X.ty e) a b r
  | _ => none
theorem pp_ptr (e : TypeId) (a b : Addr) (r : Bool) : eqPP X (some (.pointer e)) a b r = eqPQ (X.ty e) a b r := rfl
theorem pp_same (u : TypeDesc) (n b : Nat) (z : Value) (a : Addr) (r : Bool) : eqPQ (some ⟨u, n, b, z⟩) a a r = if n ≠ 0 then some (.c (.bool r)) else none := by
  unfold eqPQ
  simp
theorem bi_pp (a b : Addr) : binA X .eql t (.ptr a) (.ptr b) = eqPP X (X.und t) a b true ∧ binA X .neq t (.ptr a) (.ptr b) = eqPP X (X.und t) a b false := by
  have hk : sameKind (.ptr a) (.ptr b) = false := rfl
  have hs : sameP X t (.ptr a) (.ptr b) = (eqPP X (X.und t) a b true).isSome := by
    unfold sameP eqPP
    cases X.und t with
    | none => rfl
    | some q =>
      cases q <;> first | rfl | skip
      rename_i e
      simp only [eqPQ]
      cases X.ty e with
      | none => rfl
      | some te =>
        simp only
        by_cases hc : te.size ≠ 0 ∧ a = b
        · rw [if_pos hc, decide_eq_true hc]; rfl
        · rw [if_neg hc, decide_eq_false hc]; rfl
  have h2 : ∀ r : Bool, eqPP X (X.und t) a b r = if (eqPP X (X.und t) a b true).isSome = true then some (.c (.bool r)) else none := by
    intro r
    unfold eqPP eqPQ
    (repeat' split) <;> simp_all
  rw [h2 true, h2 false]
  simp only [binA, low, oneNil, hk, Bool.false_and, Bool.false_eq_true, if_false, hs]
  cases (eqPP X (X.und t) a b true).isSome <;> exact ⟨rfl, rfl⟩
theorem bi_eqpp (a b : Addr) : binA X .eql t (.ptr a) (.ptr b) = eqPP X (X.und t) a b true := (bi_pp a b).1
theorem bi_nepp (a b : Addr) : binA X .neq t (.ptr a) (.ptr b) = eqPP X (X.und t) a b false := (bi_pp a b).2
theorem bi_eqp (a : Addr) : binA X .eql t (.ptr a) (.c (.pointer none)) = nilQ (X.und t) (.ptr a) false := (nil_gen rfl rfl (kf_c _ _)).1
theorem bi_nep (a : Addr) : binA X .neq t (.ptr a) (.c (.pointer none)) = nilQ (X.und t) (.ptr a) true := (nil_gen rfl rfl (kf_c _ _)).2
theorem bi_eqf (cs : List AV) (o : Nat) : binA X .eql t (.fptr cs o) (.c (.pointer none)) = nilQ (X.und t) (.fptr cs o) false := (nil_gen rfl rfl (kf_c _ _)).1
theorem bi_nef (cs : List AV) (o : Nat) : binA X .neq t (.fptr cs o) (.c (.pointer none)) = nilQ (X.und t) (.fptr cs o) true := (nil_gen rfl rfl (kf_c _ _)).2
theorem bi_eqs (a : Addr) (l c : Nat) : binA X .eql t (.sl a l c) (.c (.slice none 0 0)) = nilQ (X.und t) (.sl a l c) false := (nil_gen rfl rfl (kf_c _ _)).1
theorem bi_nes (a : Addr) (l c : Nat) : binA X .neq t (.sl a l c) (.c (.slice none 0 0)) = nilQ (X.und t) (.sl a l c) true := (nil_gen rfl rfl (kf_c _ _)).2
theorem bi_eqm (r : Nat) : binA X .eql t (.map r) (.c (.map none)) = nilQ (X.und t) (.map r) false := (nil_gen rfl rfl (kf_c _ _)).1
theorem bi_nem (r : Nat) : binA X .neq t (.map r) (.c (.map none)) = nilQ (X.und t) (.map r) true := (nil_gen rfl rfl (kf_c _ _)).2
theorem bi_eqfn (f : Nat) (x y : List AV) : binA X .eql t (.fn f x y) (.c .nilFunc) = nilQ (X.und t) (.fn f x y) false := (nil_gen rfl rfl (kf_c _ _)).1
theorem bi_nefn (f : Nat) (x y : List AV) : binA X .neq t (.fn f x y) (.c .nilFunc) = nilQ (X.und t) (.fn f x y) true := (nil_gen rfl rfl (kf_c _ _)).2
end
theorem una_c (op : UnOp) (v : Value) : unA op (.c v) = (unOpv op v).map cv := rfl
section
variable {b c : Nat} {o : VO} {off n : Nat} {sp : Option Nat} {vs : List AV}
theorem vz_push (s : VS) (o : VO) : (s.push o).size = s.size + 1 := by have : (s.push o).size = s.size + 1 := rfl; omega
theorem vz_set (s : VS) (b : Nat) (o : VO) : (s.set b o).size = s.size := by have : (s.set b o).size = s.size := rfl; omega
theorem gp_ne (h : b ≠ s.size) : (s.push o).get b = s.get b := by rw [VS.get_push, if_neg h]
theorem gp_eq (h : b = s.size) : (s.push o).get b = some o := by rw [VS.get_push, if_pos h]
theorem gs_ne (h : b ≠ c) : (s.set c o).get b = s.get b := by unfold VS.get VS.set; simp only [if_neg h]
theorem gs_eq (h : b = c) (hb : b < s.size) : (s.set c o).get b = some o := by unfold VS.get VS.set; simp only [if_pos hb, if_pos h]
theorem vp_ver : (s.push o).ver b = s.ver b := rfl
theorem vs_ver (h : b ≠ c) : (s.set c o).ver b = s.ver b := by unfold VS.set; simp only [if_neg h]
def rdV (o : Option VO) (off : Nat) (sp : Option Nat) (n : Nat) : Option (List AV) := match o with
  | some (.own r) => if sp.getD 0 = r.ep ∧ off + n ≤ r.cs.length then some ((r.cs.drop off).take n) else none
  | _ => none
theorem rd_mk : s.rd ⟨b, off, sp⟩ n = rdV (s.get b) off sp n := rfl
theorem rv_own (cs : List AV) (e ep frz : Nat) (str : Bool) : rdV (some (.own ⟨cs, e, ep, frz, str⟩)) off sp n = if sp.getD 0 = ep ∧ off + n ≤ cs.length then some ((cs.drop off).take n) else none := rfl
def wrV (o : Option VO) (s : VS) (b off : Nat) (sp : Option Nat) (vs : List AV) : Option VS := match o with
  | some (.own r) => if sp.getD 0 = r.ep ∧ off + vs.length ≤ r.cs.length ∧ r.frz ≤ off ∧ r.str = false ∧ vs.all oneA = true then some (s.set b (.own { r with cs := overA r.cs off vs })) else none
  | _ => none
theorem wr_mkA : s.wr ⟨b, off, sp⟩ vs = wrV (s.get b) s b off sp vs := rfl
theorem wv_own (cs : List AV) (e ep frz : Nat) (str : Bool) : wrV (some (.own ⟨cs, e, ep, frz, str⟩)) s b off sp vs = if sp.getD 0 = ep ∧ off + vs.length ≤ cs.length ∧ frz ≤ off ∧ str = false ∧ vs.all oneA = true then some (s.set b (.own ⟨overA cs off vs, e, ep, frz, str⟩)) else none := rfl
end
section
variable {t : TypeId} {a : Addr} {cs : List AV} {off : Nat}
def ldP (o : Option Ty) (a : Addr) (s : VS) : Option AV := match o with | some ty => (s.rd a ty.size).bind (oneOf ty) | none => none
theorem ld_ptr : loadA X t (.ptr a) s = ldP (X.ty t) a s := by
  unfold loadA ldP
  cases X.ty t <;> rfl
theorem lp_some (u : TypeDesc) (n b : Nat) (z : Value) : ldP (some ⟨u, n, b, z⟩) a s = (s.rd a n).bind (oneOf ⟨u, n, b, z⟩) := rfl
def ldF (o : Option Ty) (cs : List AV) (off : Nat) : Option AV := match o with | some ty => if off + ty.size ≤ cs.length then oneOf ty ((cs.drop off).take ty.size) else none | none => none
theorem ld_fptr : loadA X t (.fptr cs off) s = ldF (X.ty t) cs off := by
  unfold loadA ldF
  cases X.ty t <;> rfl
theorem lf_some (u : TypeDesc) (n b : Nat) (z : Value) : ldF (some ⟨u, n, b, z⟩) cs off = if off + n ≤ cs.length then oneOf ⟨u, n, b, z⟩ ((cs.drop off).take n) else none := rfl
end
theorem m_take {α β : Type} (f : α → β) (l : List α) (n : Nat) : (l.map f).take n = (l.take n).map f := List.map_take.symm
theorem m_drop {α β : Type} (f : α → β) (l : List α) (n : Nat) : (l.map f).drop n = (l.drop n).map f := List.map_drop.symm
theorem m_get {α β : Type} (f : α → β) (l : List α) (n : Nat) : (l.map f)[n]? = (l[n]?).map f := List.getElem?_map
def eI (k : IntKind) (n : Int) : List AV := [.c (.int k n)]
@[reducible] def LI (l : List Int) : AV := .lst 1 (l.map (eI .i64))
def eS (p : Int × Int) : List AV := [.c (.int .i64 p.1), .c (.int .i64 p.2)]
@[reducible] def LS (l : List (Int × Int)) : AV := .lst 2 (l.map eS)
theorem flat_eI (k : IntKind) (l : List Int) : (l.map (eI k)).flatten = l.map fun n => .c (.int k n) := by
  induction l with
  | nil => rfl
  | cons a l ih => rw [List.map_cons, List.flatten_cons, ih]; rfl
section
variable {t : TypeId} {lo hi mx : Option AV}
theorem sc_nil : sliceA X t (.c (.slice none 0 0)) lo hi mx = (cutE X t lo hi mx).map fun _ => .c (.slice none 0 0) := rfl
theorem sc_emp : sliceA X t .emp lo hi mx = (cutE X t lo hi mx).map fun _ => .emp := rfl
def cutLT (X : Prg) (o : Option TypeDesc) (sz : Nat) (xs : List (List AV)) (lo hi mx : Option AV) : Option AV := match o with
  | some (.slice e) => match X.ty e with
    | some te => if te.size = sz then cutL sz xs lo hi mx else none
    | none => none
  | _ => none
theorem sc_lst (sz : Nat) (xs : List (List AV)) : sliceA X t (.lst sz xs) lo hi mx = cutLT X (X.und t) sz xs lo hi mx := rfl
theorem cl_slice (e : TypeId) (sz : Nat) (xs : List (List AV)) : cutLT X (some (.slice e)) sz xs lo hi mx = match X.ty e with
    | some te => if te.size = sz then cutL sz xs lo hi mx else none
    | none => none := rfl
def slCut (X : Prg) (o : Option TypeDesc) (a : Addr) (len cap : Nat) (lo hi mx : Option AV) : Option AV := match o with
  | some (.slice e) => match X.ty e with
    | some te => match mx with
      | none => match bndA hi len (cap / 2) with
        | some h => match bndA lo 0 h with
          | some l => some (.sl (Addr.fwd a (l * te.size)) (h - l) (if cap % 2 = 1 then capX (cap / 2 - l) else capO (cap / 2 - l)))
          | none => none
        | none => none
      | some (.c (.int _ m)) => if hi.isNone = true then none else if 0 ≤ m ∧ m ≤ ((cap / 2 : Nat) : Int) then match bndA hi 0 m.toNat with
          | some h => match bndA lo 0 h with
            | some l => some (.sl (Addr.fwd a (l * te.size)) (h - l) (capX (m.toNat - l)))
            | none => none
          | none => none
        else none
      | some _ => none
    | none => none
  | _ => none
theorem sc_sl (a : Addr) (len cap : Nat) : sliceA X t (.sl a len cap) lo hi mx = slCut X (X.und t) a len cap lo hi mx := by
  show reSl (sliceOp X t (.slice (some a) len cap) (lo.map unc) (hi.map unc) (mx.map unc)) = _
  unfold sliceOp slCut Prg.und
  cases X.ty t with
  | none => rfl
  | some ty =>
    simp only
    cases ty.und with
    | slice e =>
      simp only
      cases X.ty e with
      | none => rfl
      | some te =>
        simp only
        cases mx with
        | none =>
          simp only [Option.map_none]
          show reSl (match bndA hi len (cap / 2) with | some h => (match bndA lo 0 h with | some l => _ | none => none) | none => none) = _
          cases bndA hi len (cap / 2) with
          | none => rfl
          | some h =>
            simp only
            cases bndA lo 0 h <;> rfl
        | some m =>
          simp only [Option.map_some]
          cases m with
          | c v =>
            cases v with
            | int k i =>
              simp only [unc, Option.isNone_map]
              split
              · rfl
              · split
                · show reSl (match bndA hi 0 i.toNat with | some h => (match bndA lo 0 h with | some l => _ | none => none) | none => none) = _
                  cases bndA hi 0 i.toNat with
                  | none => rfl
                  | some h =>
                    simp only
                    cases bndA lo 0 h <;> rfl
                · rfl
            | _ => rfl
          | _ => rfl
    | _ => rfl
def arCut (X : Prg) (o : Option TypeDesc) (a : Addr) (lo hi mx : Option AV) : Option AV := match o with
  | some (.array n e) => if mx.isSome = true then none else match X.ty e with
    | some te => match bndA hi n n with
      | some h => match bndA lo 0 h with
        | some l => some (.sl (Addr.fwd a (l * te.size)) (h - l) (capX (n - l)))
        | none => none
      | none => none
    | none => none
  | _ => none
theorem sc_ptr (a : Addr) : sliceA X t (.ptr a) lo hi mx = arCut X (X.und t) a lo hi mx := by
  show reSl (sliceOp X t (.pointer (some a)) (lo.map unc) (hi.map unc) (mx.map unc)) = _
  unfold sliceOp arCut Prg.und
  cases X.ty t with
  | none => rfl
  | some ty =>
    simp only
    cases ty.und with
    | array n e =>
      simp only [Option.isSome_map]
      split
      · rfl
      · cases X.ty e with
        | none => rfl
        | some te =>
          simp only
          rw [show bnd (hi.map unc) n n = bndA hi n n from rfl]
          cases bndA hi n n with
          | none => rfl
          | some h =>
            simp only
            rw [show bnd (lo.map unc) 0 h = bndA lo 0 h from rfl]
            cases bndA lo 0 h <;> rfl
    | _ => rfl
def faCut (X : Prg) (o : Option TypeDesc) (cs : List AV) (off : Nat) (lo hi mx : Option AV) : Option AV := match o with
  | some (.array n e) => match X.ty e with
    | some te => if mx.isNone && decide (off + n * te.size ≤ cs.length) then match bndA hi n n with
      | some h => match bndA lo 0 h with
        | some l => some (.lst te.size (chunk te.size (h - l) (cs.drop (off + l * te.size))))
        | none => none
      | none => none
      else none
    | none => none
  | _ => none
theorem sc_fptr (cs : List AV) (off : Nat) : sliceA X t (.fptr cs off) lo hi mx = faCut X (X.und t) cs off lo hi mx := rfl
def stCut (o : Option TypeDesc) (b : ByteArray) (lo hi mx : Option AV) : Option AV := match o with
  | some .string => if mx.isSome = true then none else match bndA hi b.size b.size with
    | some h => match bndA lo 0 h with
      | some l => some (.c (.string (b.extract l h)))
      | none => none
    | none => none
  | _ => none
theorem sc_str (b : ByteArray) : sliceA X t (.c (.string b)) lo hi mx = stCut (X.und t) b lo hi mx := by
  show (sliceOp X t (.string b) (lo.map unc) (hi.map unc) (mx.map unc)).map cv = _
  unfold sliceOp stCut Prg.und
  cases X.ty t with
  | none => rfl
  | some ty =>
    simp only
    cases ty.und with
    | string =>
      simp only [Option.isSome_map]
      split
      · rfl
      · show (match bndA hi b.size b.size with | some h => (match bndA lo 0 h with | some l => _ | none => none) | none => none : Option Value).map cv = _
        cases bndA hi b.size b.size with
        | none => rfl
        | some h =>
          simp only
          cases bndA lo 0 h <;> rfl
    | _ => rfl
theorem bd_none (a b : Nat) : bndA none a b = some a := rfl
theorem bd_some (k : IntKind) (i : Int) (a b : Nat) : bndA (some (.c (.int k i))) a b = if 0 ≤ i ∧ i ≤ (b : Int) then some i.toNat else none := rfl
theorem mx_none (n : Nat) : maxA none n = some n := rfl
theorem mx_some (k : IntKind) (m : Int) (n : Nat) : maxA (some (.c (.int k m))) n = if 0 ≤ m ∧ m ≤ (n : Int) then some m.toNat else none := rfl
theorem capO_half (n : Nat) : capO n / 2 = n := by unfold capO; omega
theorem capX_half (n : Nat) : capX n / 2 = n := by unfold capX; omega
theorem capO_mod (n : Nat) : capO n % 2 = 0 := by unfold capO; omega
theorem capX_mod (n : Nat) : capX n % 2 = 1 := by unfold capX; omega
end
theorem if_leI {a b : Int} (h : a ≤ b) {α : Type} {x y : α} : ite (a ≤ b) x y = x := if_pos h
theorem if_ltI {a b : Int} (h : a < b) {α : Type} {x y : α} : ite (a < b) x y = x := if_pos h
theorem tn_add {x y : Int} (h1 : 0 ≤ x) (h2 : 0 ≤ y) : (x + y).toNat = x.toNat + y.toNat := by omega
theorem tn_sub {x y : Int} (h : 0 ≤ y) : (x - y).toNat = x.toNat - y.toNat := by omega
theorem tn_mul {x y : Int} (h1 : 0 ≤ x) (h2 : 0 ≤ y) : (x * y).toNat = x.toNat * y.toNat := Int.toNat_mul h1 h2
theorem tn_div {x y : Int} (h1 : 0 ≤ x) (h2 : 0 ≤ y) : (x / y).toNat = x.toNat / y.toNat := by
  obtain ⟨a, rfl⟩ := Int.eq_ofNat_of_zero_le h1
  obtain ⟨b, rfl⟩ := Int.eq_ofNat_of_zero_le h2
  rw [← Int.natCast_ediv]; rfl
theorem tn_mod {x y : Int} (h1 : 0 ≤ x) (h2 : 0 ≤ y) : (x % y).toNat = x.toNat % y.toNat := by
  obtain ⟨a, rfl⟩ := Int.eq_ofNat_of_zero_le h1
  obtain ⟨b, rfl⟩ := Int.eq_ofNat_of_zero_le h2
  rw [← Int.natCast_emod]; rfl
theorem toNat_add2 (n m : Nat) : ((n : Int) + (m : Int)).toNat = n + m := by omega
def bsP (X : Prg) (t n : Nat) (ρ : AEnv) (ps : Array (Nat × Operand)) (s : VS) : Option (AV × VS) := bsliceA X t n (partsA (evA X ρ) ps) s
theorem oa_bs {k : AV → VS → Prop} {t n : Nat} {ps : Array (Nat × Operand)} : opA X (.buildSlice t n ps) ρ s k = contA (bsP X t n ρ ps s) k := oa_buildSlice
theorem bs_0 {t : Nat} {ps : Array (Nat × Operand)} : bsP X t 0 ρ ps s = bsliceA X t 0 (partsA (evA X ρ) ps) s := rfl
theorem bs_1 {t : Nat} {ps : Array (Nat × Operand)} : bsP X t 1 ρ ps s = bsliceA X t 1 (partsA (evA X ρ) ps) s := rfl
theorem bs_2 {t : Nat} {ps : Array (Nat × Operand)} : bsP X t 2 ρ ps s = bsliceA X t 2 (partsA (evA X ρ) ps) s := rfl
theorem bs_3 {t : Nat} {ps : Array (Nat × Operand)} : bsP X t 3 ρ ps s = bsliceA X t 3 (partsA (evA X ρ) ps) s := rfl
theorem bs_4 {t : Nat} {ps : Array (Nat × Operand)} : bsP X t 4 ρ ps s = bsliceA X t 4 (partsA (evA X ρ) ps) s := rfl
theorem overA_get {cs vs : List AV} {off : Nat} (h : off + vs.length ≤ cs.length) (i : Nat) : (overA cs off vs)[i]? = if i < off then cs[i]? else if i < off + vs.length then vs[i - off]? else cs[i]? := by
  have hl : (cs.take off).length = off := by rw [List.length_take]; omega
  unfold overA
  rw [List.append_assoc]
  by_cases h1 : i < off
  · rw [if_pos h1, List.getElem?_append_left (by omega), List.getElem?_take, if_pos h1]
  · rw [if_neg h1, List.getElem?_append_right (by omega), hl]
    by_cases h2 : i < off + vs.length
    · rw [if_pos h2, List.getElem?_append_left (by omega)]
    · rw [if_neg h2, List.getElem?_append_right (by omega), List.getElem?_drop]
      congr 1
      omega
theorem overA_len {cs vs : List AV} {off : Nat} (h : off + vs.length ≤ cs.length) : (overA cs off vs).length = cs.length := by
  unfold overA
  simp only [List.length_append, List.length_take, List.length_drop]
  omega
theorem fillA_ints (k : IntKind) (ev : Operand → AV) (hev : ∀ v, ev (.const v) = cv v) : ∀ (ps : List (Nat × Operand)) (j : Nat) (l : List Int) (cs : List AV), intsOf k ps j = some l → j + l.length = cs.length →
    fillA (fun i => some (i * 1, 1)) cs (ps.map fun p => (p.1, ev p.2)) = some (cs.take j ++ l.map fun n => .c (.int k n))
  | [], j, l, cs, h, hl => by
    simp only [intsOf, Option.some.injEq] at h; subst h
    simp only [List.length_nil] at hl
    rw [List.map_nil, fillA, List.take_of_length_le (by omega)]; simp
  | (i, x) :: r, j, l, cs, h, hl => by
    simp only [intsOf] at h
    split at h
    · rename_i q hq
      obtain ⟨k', v⟩ := q
      obtain rfl := constI_some hq
      split at h
      · rename_i hc
        simp only at hc
        obtain ⟨rfl, rfl⟩ := hc
        rw [Option.map_eq_some_iff] at h
        obtain ⟨l', h1, rfl⟩ := h
        simp only [List.length_cons] at hl
        rw [List.map_cons]
        simp only [fillA, hev, cv_int, cellsA]
        rw [if_pos (by simp; omega), fillA_ints k' ev hev r _ l' _ h1 (by rw [overA_len (by simp; omega)]; omega)]
        congr 1
        have e4 : cs.take i ++ List.map (fun n => AV.c (Value.int k' n)) (v :: l') = (cs.take i ++ [.c (.int k' v)]) ++ List.map (fun n => AV.c (Value.int k' n)) l' := by simp
        rw [e4]
        congr 1
        have hlt : i < cs.length := by omega
        apply List.ext_getElem?
        intro n
        rw [List.getElem?_take, overA_get (by simp; omega)]
        simp only [Nat.mul_one, List.length_singleton]
        rcases Nat.lt_trichotomy n i with h2 | h2 | h2
        · rw [if_pos (by omega), if_pos h2, List.getElem?_append_left (by simp; omega), List.getElem?_take, if_pos h2]
        · subst h2
          rw [if_pos (by omega), if_neg (by omega), if_pos (by omega), List.getElem?_append_right (by simp; omega)]
          simp [Nat.min_eq_left (Nat.le_of_lt hlt)]
        · rw [if_neg (by omega), List.getElem?_append_right (by simp; omega)]
          rw [List.getElem?_eq_none (by simp; omega)]
      · cases h
    · cases h
theorem bsP_ints {t e n b : Nat} {k : IntKind} {z : Int} {ps : Array (Nat × Operand)} {l : List Int} (hu : X.und t = some (.slice e)) (hte : X.ty e = some ⟨.int k, 1, b, .int k z⟩) (hl : intsOf k ps.toList 0 = some l) (hn : l.length = n) (hs : Nat.ble n 65536 = true) :
    bsP X t n ρ ps s = some (.sl ⟨s.size, 0, none⟩ n (capX n), s.push (.own ⟨l.map fun x => .c (.int k x), e, 0, 0, false⟩)) := by
  have := Nat.le_of_ble_eq_true hs
  unfold bsP bsliceA
  simp only [hu, hte]
  rw [if_pos (by omega)]
  have hz : ((reps (Value.int k z).cells.toList n).map cv).length = n := by
    rw [List.length_map, reps_len]; simp [Value.cells]
  have := fillA_ints k (evA X ρ) (fun v => rfl) ps.toList 0 l ((reps (Value.int k z).cells.toList n).map cv) hl (by rw [hz, hn]; omega)
  unfold partsA
  rw [this]
  simp
attribute [irreducible] bsP
theorem lt_1 (a : Nat) : (a < a + 1) = True := eq_true (by omega)
theorem lt_2 (a : Nat) : (a < a + 1 + 1) = True := eq_true (by omega)
theorem lt_3 (a : Nat) : (a < a + 1 + 1 + 1) = True := eq_true (by omega)
theorem lt_4 (a : Nat) : (a < a + 1 + 1 + 1 + 1) = True := eq_true (by omega)
theorem lt_5 (a : Nat) : (a < a + 1 + 1 + 1 + 1 + 1) = True := eq_true (by omega)
theorem lt_6 (a : Nat) : (a < a + 1 + 1 + 1 + 1 + 1 + 1) = True := eq_true (by omega)
theorem lt_7 (a : Nat) : (a < a + 1 + 1 + 1 + 1 + 1 + 1 + 1) = True := eq_true (by omega)
def Open (k : Nat → List Value → Option Value) (f : Nat) : Prop := ∀ v l, k f (v :: l) = none
theorem Open.at {k : Nat → List Value → Option Value} {f n : Nat} (h : Open k f) : ∀ a : List Value, a.length = n + 1 → k f a = none := fun a ha => by
  cases a with
  | nil => cases ha
  | cons v l => exact h v l
theorem Open.none {k : Nat → List Value → Option Value} {f : Nat} (h : k f [] = none) : ∀ a : List Value, a.length = 0 → k f a = none := fun a ha => by
  cases a with
  | nil => exact h
  | cons v l => cases ha
def cL : Code → Code
  | .seq a _ | .cond _ a _ | .block _ a | .loop a | .scope a => a
  | c => c
def cR : Code → Code
  | .seq _ b | .cond _ _ b => b
  | c => c
end Go.Proofs.Yticllcglldbffaa.Ab
end
section
namespace Go.Proofs.Yticllcglldbffaa.Ab
variable {X : Prg} {vs vs' : VS}
theorem KeepA.size_le {a b : VS} (h : KeepA a b) : a.size ≤ b.size := h.1
theorem all_cons {α : Type} {p : α → Prop} {v : α} {l : List α} (h : p v) (k : ∀ u ∈ l, p u) : ∀ u ∈ v :: l, p u := fun u hu => by
  rcases List.mem_cons.1 hu with rfl | hu
  · exact h
  · exact k u hu
theorem all_nil {α : Type} {p : α → Prop} : ∀ u ∈ ([] : List α), p u := fun u hu => by cases hu
theorem all_map {α β : Type} {p : β → Prop} {f : α → β} {l : List α} (h : ∀ x, p (f x)) : ∀ u ∈ l.map f, p u := fun u hu => by
  obtain ⟨x, _, rfl⟩ := List.mem_map.1 hu
  exact h x
def FirmR (l : List AV) : Prop := ∀ v ∈ l, Firm v
theorem FirmR.cons {v : AV} {l : List AV} (h : Firm v) (k : FirmR l) : FirmR (v :: l) := all_cons h k
theorem FirmR.nil : FirmR [] := all_nil
theorem FirmR.append {l m : List AV} (h : FirmR l) (k : FirmR m) : FirmR (l ++ m) := fun v hv => by
  rcases List.mem_append.1 hv with hv | hv
  · exact h v hv
  · exact k v hv
theorem FirmR.take {l : List AV} (h : FirmR l) (n : Nat) : FirmR (l.take n) := fun v hv => h v (List.mem_of_mem_take hv)
theorem FirmR.drop {l : List AV} (h : FirmR l) (n : Nat) : FirmR (l.drop n) := fun v hv => h v (List.mem_of_mem_drop hv)
theorem FirmR.map {α : Type} {f : α → AV} {l : List α} (h : ∀ x, Firm (f x)) : FirmR (l.map f) := all_map h
theorem FirmR.flat {xs : List (List AV)} (h : ∀ x ∈ xs, FirmR x) : FirmR xs.flatten := fun v hv => by
  obtain ⟨l, hl, hv⟩ := List.mem_flatten.1 hv
  exact h l hl v hv
theorem Firm.lstm {α : Type} {sz : Nat} {f : α → List AV} {l : List α} (h : ∀ x, FirmR (f x)) : Firm (.lst sz (l.map f)) := Firm.lst (all_map h)
theorem firm_eI (k : IntKind) (n : Int) : FirmR (eI k n) := FirmR.cons (Firm.c _) FirmR.nil
theorem firm_eS (p : Int × Int) : FirmR (eS p) := FirmR.cons (Firm.c _) (FirmR.cons (Firm.c _) FirmR.nil)
theorem Firm.LI (l : List Int) : Firm (LI l) := Firm.lstm (firm_eI _)
theorem Firm.LS (l : List (Int × Int)) : Firm (LS l) := Firm.lstm firm_eS
theorem out_firm {r v : AV} (hk : KeepA vs vs') (h : v = r) (hf : Firm r) : outP X vs r v vs' := by subst h; exact ⟨hk, Se.firm hf⟩
theorem out_bool {a b : Bool} (hk : KeepA vs vs') (h : a = b) : outP X vs (.c (.bool b)) (.c (.bool a)) vs' := by subst h; exact ⟨hk, Se.c _⟩
theorem out_int {k : IntKind} {a b : Int} (hk : KeepA vs vs') (h : a = b) : outP X vs (.c (.int k b)) (.c (.int k a)) vs' := by subst h; exact ⟨hk, Se.c _⟩
theorem Se.ci {P N : Nat → Prop} {k : IntKind} {a b : Int} (h : a = b) : Se X P N vs (.c (.int k a)) (.c (.int k b)) := by subst h; exact Se.c _
theorem Se.cb {P N : Nat → Prop} {a b : Bool} (h : a = b) : Se X P N vs (.c (.bool a)) (.c (.bool b)) := by subst h; exact Se.c _
theorem out_nil {sz : Nat} {xs : List (List AV)} (hk : KeepA vs vs') (h : xs = []) : outP X vs (.lst sz xs) (.c (.slice none 0 0)) vs' := by subst h; exact ⟨hk, Se.nil sz⟩
theorem len_eI (k : IntKind) (l : List Int) : ∀ x ∈ l.map (eI k), x.length = 1 := all_map fun _ => rfl
theorem len_eS (l : List (Int × Int)) : ∀ x ∈ l.map eS, x.length = 2 := all_map fun _ => rfl
theorem flat_len_eS (l : List (Int × Int)) : (l.map eS).flatten.length = l.length * 2 := by rw [flatten_len (len_eS l), List.length_map]
end Go.Proofs.Yticllcglldbffaa.Ab
end
section
namespace Go.Proofs.Yticllcglldbffaa.Ab
variable {X : Prg} {s0 s : VS}
inductive Gr (s0 s : VS) (e sz : Nat) : AV → Nat → List AV → Prop
  | nil : Gr s0 s e sz (.c (.slice none 0 0)) 0 []
  | emp : Gr s0 s e sz .emp 0 []
  | row (b : Nat) (sp : Option Nat) (n : Nat) (cs : List AV) : s.get b = some (.own ⟨cs, e, sp.getD 0, 0, false⟩) → s0.size ≤ b → cs.length = n * sz → Gr s0 s e sz (.sl ⟨b, 0, sp⟩ n (capO n)) n cs
  | lit (b : Nat) (n : Nat) (cs : List AV) (e' : Nat) : s.get b = some (.own ⟨cs, e', 0, 0, false⟩) → s0.size ≤ b → cs.length = n * sz → Gr s0 s e sz (.sl ⟨b, 0, none⟩ n (capX n)) n cs
variable {e sz n : Nat} {v : AV} {cs : List AV}
theorem Gr.len (h : Gr s0 s e sz v n cs) : cs.length = n * sz := by cases h <;> simp_all
theorem Gr.push (h : Gr s0 s e sz v n cs) (o : VO) : Gr s0 (s.push o) e sz v n cs := by
  cases h with
  | nil => exact .nil
  | emp => exact .emp
  | row b sp n cs h1 h2 h3 =>
    have := VS.lt_of_get h1
    exact .row b sp n cs (by rw [gp_ne (by omega)]; exact h1) h2 h3
  | lit b n cs e' h1 h2 h3 =>
    have := VS.lt_of_get h1
    exact .lit b n cs e' (by rw [gp_ne (by omega)]; exact h1) h2 h3
theorem Gr.lenA (h : Gr s0 s e sz v n cs) {t e1 b c : Nat} {z : Value} (ht : X.ty t = some ⟨.slice e1, b, c, z⟩) (s2 : VS) : lenA X t v s2 = some (n : Int) := by
  cases h <;> simp only [Ab.lenA, ht] <;> rfl
def But (s s' : VS) (v : AV) : Prop := s.size ≤ s'.size ∧ ∀ b, b < s.size → blkOf v ≠ some b → s'.get b = s.get b ∧ s'.ver b = s.ver b
theorem But.keep {s' : VS} (h : But s s' v) (k : KeepA s0 s) (hg : Gr s0 s e sz v n cs) : KeepA s0 s' := by
  refine ⟨Nat.le_trans k.1 h.1, fun b hb => ?_⟩
  have hb2 := Nat.lt_of_lt_of_le hb k.1
  have h1 := h.2 b hb2 (by
    intro he
    cases hg <;> simp [blkOf] at he
    · omega
    · omega)
  have h2 := k.2 b hb
  exact ⟨h1.1.trans h2.1, h1.2.trans h2.2⟩
theorem Gr.append {te : Ty} {m : Nat} {ws : List AV} (h : Gr s0 s e sz v n cs) (hk : s0.size ≤ s.size) (hz : te.size = sz) (hw : ws.length = m * sz) (ho : ws.all oneA = true) (hr : roomOk (n + m) te.bytes = true) :
    ∃ v' s', appendToA te e m ws v s = some (v', s') ∧ Gr s0 s' e sz v' (n + m) (cs ++ ws) ∧ But s s' v := by
  by_cases hm : m = 0
  · subst hm
    have hw0 : ws = [] := List.eq_nil_of_length_eq_zero (by omega)
    subst hw0
    refine ⟨v, s, ?_, by rw [List.append_nil]; exact h, Nat.le_refl _, fun _ _ _ => ⟨rfl, rfl⟩⟩
    cases h <;> simp [appendToA]
  · have hpush : ∀ (r : VRow), But s (s.push (.own r)) v := fun r => ⟨by rw [vz_push]; omega, fun b hb _ => ⟨gp_ne (by omega), rfl⟩⟩
    cases h with
    | nil =>
      rw [Nat.zero_add] at hr ⊢
      exact ⟨_, _, by simp only [appendToA, if_neg hm]; rw [if_pos hr]; rfl, .row s.size none m ([] ++ ws) (gp_eq rfl) hk (by simpa using hw), hpush _⟩
    | emp =>
      rw [Nat.zero_add] at hr ⊢
      exact ⟨_, _, by simp only [appendToA, if_neg hm]; rw [if_pos hr]; rfl, .row s.size none m ([] ++ ws) (gp_eq rfl) hk (by simpa using hw), hpush _⟩
    | row b sp n cs h1 h2 h3 =>
      have hb := VS.lt_of_get h1
      have hc : roomOk (n + m) te.bytes = true ∧ ep (⟨b, 0, sp⟩ : Addr) = sp.getD 0 ∧ (⟨b, 0, sp⟩ : Addr).off = 0 ∧ cs.length = n * te.size ∧ e = e ∧ ws.all oneA = true ∧ 0 ≤ n * te.size ∧ false = false := ⟨hr, rfl, rfl, by rw [hz]; exact h3, rfl, ho, Nat.zero_le _, rfl⟩
      refine ⟨.sl ⟨b, 0, some (sp.getD 0 + 1)⟩ (n + m) (capO (n + m)), s.set b (.own ⟨cs ++ ws, e, sp.getD 0 + 1, 0, false⟩), ?_, ?_, ?_⟩
      · simp only [appendToA, if_neg hm, capO_half, capO_mod]
        rw [if_neg (by omega), if_neg (by omega)]
        simp only [h1]
        exact if_pos (by simpa using hc)
      · exact .row b (some (sp.getD 0 + 1)) (n + m) _ (gs_eq rfl hb) h2 (by rw [List.length_append, h3, hw, Nat.add_mul])
      · refine ⟨by rw [vz_set]; exact Nat.le_refl _, fun c hc' hne => ?_⟩
        have : c ≠ b := by rintro rfl; exact hne rfl
        exact ⟨gs_ne this, vs_ver this⟩
    | lit b n cs e' h1 h2 h3 =>
      refine ⟨_, _, ?_, .row s.size none (n + m) (cs ++ ws) (gp_eq rfl) hk (by rw [List.length_append, h3, hw, Nat.add_mul]), hpush _⟩
      have hrd : s.rd ⟨b, 0, none⟩ (n * te.size) = some cs := by
        rw [rd_mk, h1, rv_own, hz, if_pos ⟨rfl, by omega⟩, List.drop_zero, ← h3, List.take_length]
      simp only [appendToA, if_neg hm, capX_half, capX_mod, hrd, Option.map_some]
      rw [if_neg (by omega), if_pos (by decide), if_pos hr]
      rfl
theorem Gr.step {te : Ty} {m : Nat} {ws : List AV} {k : AV → VS → Prop} (h : Gr s0 s e sz v n cs) (hk : KeepA s0 s) (hz : te.size = sz) (hw : ws.length = m * sz) (ho : ws.all oneA = true) (hr : roomOk (n + m) te.bytes = true)
    (hK : ∀ v' s', Gr s0 s' e sz v' (n + m) (cs ++ ws) → But s s' v → KeepA s0 s' → k v' s') : contA (appendToA te e m ws v s) k := by
  obtain ⟨v', s', h1, h2, h3⟩ := h.append hk.1 hz hw ho hr
  rw [h1, ct_some]
  exact hK v' s' h2 h3 (h3.keep hk h)
theorem over_fill {dn zs x : List AV} {off : Nat} (h : dn.length = off) : overA (dn ++ zs) off x = dn ++ x ++ zs.drop x.length := by
  unfold overA
  rw [List.take_left' h, ← h, List.drop_append]
  simp
theorem But.get {s' : VS} {b : Nat} {o : VO} (h : But s s' v) (hg : s.get b = some o) (hne : blkOf v ≠ some b) : s'.get b = some o := by
  rw [(h.2 b (VS.lt_of_get hg) hne).1]; exact hg
theorem Gr.se {P N : Nat → Prop} (h : Gr s0 s e sz v n cs) (hp : ∀ b, s0.size ≤ b → P b) {xs : List (List AV)} (hx : cs = xs.flatten) (hz : ∀ x ∈ xs, x.length = sz) (hn : n = xs.length) (hf : FirmR cs) : Se X P N s v (.lst sz xs) := by
  cases h with
  | nil => have : xs = [] := List.eq_nil_of_length_eq_zero hn.symm
           subst this; exact Se.nil sz
  | emp => have : xs = [] := List.eq_nil_of_length_eq_zero hn.symm
           subst this; exact Se.emp sz
  | row b sp n cs h1 h2 h3 =>
    refine Se.sl h1 (hp _ h2) rfl ?_ (by rw [capO_half]; omega) hn.symm hz ?_
    · show 0 + n * sz ≤ cs.length; omega
    · show Ses X P N s ((cs.drop 0).take (n * sz)) xs.flatten
      rw [List.drop_zero, ← h3, List.take_length, hx]
      exact Ses.firm (hx ▸ hf)
  | lit b n cs e' h1 h2 h3 =>
    refine Se.sl h1 (hp _ h2) rfl ?_ (by rw [capX_half]; omega) hn.symm hz ?_
    · show 0 + n * sz ≤ cs.length; omega
    · show Ses X P N s ((cs.drop 0).take (n * sz)) xs.flatten
      rw [List.drop_zero, ← h3, List.take_length, hx]
      exact Ses.firm (hx ▸ hf)
theorem Gr.out (h : Gr s0 s e sz v n cs) (hk : KeepA s0 s) {xs : List (List AV)} (hx : cs = xs.flatten) (hz : ∀ x ∈ xs, x.length = sz) (hf : FirmR cs) (hs : 0 < sz) : outP X s0 (.lst sz xs) v s := by
  refine ⟨hk, h.se (fun b hb => hb) hx hz ?_ hf⟩
  have h1 := h.len
  rw [hx, flatten_len hz] at h1
  exact (Nat.eq_of_mul_eq_mul_right hs h1).symm
theorem Gr.outm {α : Type} {f : α → List AV} {l : List α} (h : Gr s0 s e sz v n (l.map f).flatten) (hk : KeepA s0 s) (hz : ∀ x, (f x).length = sz) (hf : ∀ x, FirmR (f x)) (hs : 0 < sz) : outP X s0 (.lst sz (l.map f)) v s :=
  h.out hk rfl (all_map hz) (FirmR.flat (all_map hf)) hs
theorem ones_map {α : Type} {f : α → List AV} {l : List α} (h : ∀ x, (f x).all oneA = true) : (l.map f).flatten.all oneA = true := by
  rw [List.all_flatten]
  simp [h]
theorem room_ok {n b : Nat} (h : n * b ≤ 70368744177664 ∧ n ≤ 70368744177664) : roomOk n b = true := by unfold roomOk; simp; exact h
theorem KeepA.get {a b : VS} (h : KeepA a b) {c : Nat} {o : VO} (hc : a.get c = some o) : b.get c = some o := by rw [(h.2 c (VS.lt_of_get hc)).1]; exact hc
theorem drop_ne {b c : Nat} (h : c ≠ b) : (s.drop (· = b)).get c = s.get c := by rw [VS.get_drop]; exact if_neg h
theorem drop_size {P : Nat → Prop} : (s.drop P).size = s.size := by have : (s.drop P).size = s.size := rfl; omega
attribute [push_cast] drop_ne drop_size
theorem KeepA.drop {a : VS} (h : KeepA a s) {b : Nat} (hb : a.size ≤ b) : KeepA a (s.drop (· = b)) := ⟨by rw [drop_size]; exact h.1, fun c hc => by rw [drop_ne (by omega)]; exact h.2 c hc⟩
theorem VC_row {f b n e : Nat} {l : List AV} {K : AV → VS → Prop} (hg : s.get b = some (.own ⟨l, e, 0, 0, false⟩)) (hn : l.length = n) (hf : FirmR l) (h : VC X f [.lst 1 (l.map fun v => [v])] (s.drop (· = b)) K) : VC X f [.sl ⟨b, 0, none⟩ n (capX n)] s K := by
  refine VC_freeze (· = b) (Ses.cons (Se.sl (sz := 1) (xs := l.map fun v => [v]) hg rfl rfl ?_ (by rw [capX_half]; omega) (by rw [List.length_map]; exact hn) (all_map fun _ => rfl) ?_) Ses.nil) h
  · show 0 + n * 1 ≤ l.length; omega
  · show Ses X _ All s ((l.drop 0).take (n * 1)) _
    rw [List.drop_zero, List.take_of_length_le (by omega)]
    have : (l.map fun v => [v]).flatten = l := by
      clear hg hn hf h
      induction l with
      | nil => rfl
      | cons a l ih => rw [List.map_cons, List.flatten_cons, ih]; rfl
    rw [this]
    exact Ses.firm hf
end Go.Proofs.Yticllcglldbffaa.Ab
end
section
namespace Go.Proofs.Yticllcglldbffaa.Ab
open Go.RowKit Go.Deep Go.WideShapes
def TD.av : (d : TD) → d.T → List AV
  | .int k, n => [.c (.int k n)]
  | .bool, b => [.c (.bool b)]
  | .str, b => [.c (.string b)]
  | .slice e, l => [.lst e.size (List.map (TD.av e) (l : List e.T))]
  | .one a, x => TD.av a x
  | .more a r, p => TD.av a p.1 ++ TD.av r p.2
def TD.wf : (d : TD) → d.T → Prop
  | .int k, n => (Lit.int k n).wf = true
  | .bool, _ => True
  | .str, b => b.size ≤ maxLen
  | .slice e, l => ∀ x ∈ (l : List e.T), TD.wf e x
  | .one a, x => TD.wf a x
  | .more a r, p => TD.wf a p.1 ∧ TD.wf r p.2
theorem TD.av_len : ∀ (d : TD) (x : d.T), (TD.av d x).length = d.size
  | .int _, _ => rfl
  | .bool, _ => rfl
  | .str, _ => rfl
  | .slice _, _ => rfl
  | .one a, x => TD.av_len a x
  | .more a r, p => by
    show (TD.av a p.1 ++ TD.av r p.2).length = a.size + r.size
    rw [List.length_append, TD.av_len a, TD.av_len r]
theorem TD.Enc.wf {s : St} : ∀ (d : TD) (x : d.T) (cs : List Value), d.Enc s x cs → d.wf x
  | .int _, _, _, h => h.2
  | .bool, _, _, h => trivial
  | .str, _, _, h => h.2
  | .slice e, l, cs, h => by
    rcases h with ⟨_, rfl⟩ | ⟨a, cap, cells, _, _, h3⟩
    · intro x hx; cases hx
    · intro x hx
      obtain ⟨i, hi⟩ := List.getElem?_of_mem hx
      exact TD.Enc.wf e x _ (h3 i x hi)
  | .one a, x, cs, h => TD.Enc.wf a x cs h
  | .more a r, p, cs, ⟨c1, c2, h, h1, h2⟩ => ⟨TD.Enc.wf a _ _ h1, TD.Enc.wf r _ _ h2⟩
def roWd (s : St) : Wd := ⟨fun _ => none, fun b => match s.get b with | some (.ro cs) => some (.ro cs) | _ => none⟩
theorem roWd_M {s : St} {b : Nat} {cs : List Value} (h : s.get b = some (.ro cs)) : (roWd s).M b = some (.ro cs) := by
  unfold roWd
  simp only [h]
theorem roWd_get {s : St} {k : Nat} {o : AObj} (h : (roWd s).M k = some o) : s.get k = some o := by
  unfold roWd at h
  simp only at h
  split at h
  · rename_i cs hcs; cases h; exact hcs
  · cases h
theorem roWd_rel {X : Prg} {s : St} (h : LaidS X s) (hp : X.laid.all (fun p => p.2.all plainV) = true) : Rel X (roWd s) emptyVS s where
  live b o hb := by
    have := VS.lt_of_get hb
    exact absurd this (Nat.not_lt_zero _)
  inj _ _ _ hb := by cases hb
  lt _ _ hb := by cases hb
  sep _ _ _ _ hb := by cases hb
  frz _ _ hk := roWd_get hk
  glob p hpm := ⟨roWd_M (h p hpm), List.all_eq_true.1 hp p hpm⟩
  has _ _ hb := by cases hb
theorem flat_vr {e : TD} {s : St} {dd : Wd} {l : List e.T} {cells : List Value} (hl : cells.length = l.length * e.size) (h : ∀ i x, l[i]? = some x → VRs dd (TD.av e x) ((cells.drop (i * e.size)).take e.size)) : VRs dd ((l.map (TD.av e)).flatten) cells := by
  induction l generalizing cells with
  | nil =>
    simp only [List.length_nil, Nat.zero_mul] at hl
    rw [List.length_eq_zero_iff.1 hl]
    exact .nil
  | cons x l ih =>
    have h0 := h 0 x rfl
    rw [Nat.zero_mul, List.drop_zero] at h0
    have h1 : VRs dd ((l.map (TD.av e)).flatten) (cells.drop e.size) := by
      refine ih ?_ ?_
      · rw [List.length_drop, hl, List.length_cons, Nat.succ_mul]; omega
      · intro i y hy
        have := h (i + 1) y (by simpa using hy)
        rw [List.drop_drop]
        rw [Nat.succ_mul] at this
        rwa [Nat.add_comm e.size]
    rw [List.map_cons, List.flatten_cons]
    have := h0.append h1
    rwa [List.take_append_drop] at this
theorem TD.Enc.vr {s : St} : ∀ (d : TD) (x : d.T) (cs : List Value), d.Enc s x cs → VRs (roWd s) (TD.av d x) cs
  | .int _, _, _, h => by rw [h.1]; exact .cons _ _ _ _ (.c _ rfl) .nil
  | .bool, _, _, h => by rw [show _ = _ from h]; exact .cons _ _ _ _ (.c _ rfl) .nil
  | .str, _, _, h => by rw [h.1]; exact .cons _ _ _ _ (.c _ rfl) .nil
  | .slice e, l, cs, h => by
    rcases h with ⟨rfl, rfl⟩ | ⟨a, cap, cells, rfl, ⟨⟨⟨all, hg⟩, hr⟩, hc⟩, h3⟩
    · exact .cons _ _ _ _ (.lnil _) .nil
    · have hlen := rd_len hr
      refine .cons _ _ _ _ (.lst e.size _ a _ cap (.ro all) _ cells (roWd_M hg) (by rw [List.length_map]) ?_ ?_ hc rfl (flat_vr (s := s) hlen fun i x hx => TD.Enc.vr e x _ (h3 i x hx))) .nil
      · unfold St.rd at hr
        rw [hg] at hr
        exact hr
      · intro y hy
        obtain ⟨x, _, rfl⟩ := List.mem_map.1 hy
        exact TD.av_len e x
  | .one a, x, cs, h => TD.Enc.vr a x cs h
  | .more a r, p, cs, ⟨c1, c2, h, h1, h2⟩ => by
    rw [h]
    exact (TD.Enc.vr a _ _ h1).append (TD.Enc.vr r _ _ h2)
theorem TD.Enc.keep_ {s s' : St} {d : TD} {x : d.T} {cs : List Value} (h : d.Enc s x cs) (e : Ext s s') : d.Enc s' x cs := TD.Enc.keep e.keep d x cs h
theorem openStruct {H : Type} {enc : TypeId × Value → H} {P : Program} {w : World} {base : Nat} {spare : Nat → Bool} {held : Bool} {X : Prg} (hsp : ∀ b, spare b = true) (hpos : 0 < w.heap.size) {d : TD} {t : TypeId} (hf : d.fit P (.inl t) = true) {fs : Array Field} (hu : P.underlying t = some (.struct fs)) {r : Reach} {v : Value} {D : DataW H} {p : List MemPlace} {b0 : Nat}
    (hv : Value.okWide P w r b0 t v) (h : DataW.Trod enc P w base spare held t v D p) {φ : Phi} {s : St} (hr : Ready X φ s w) :
    ∃ (φ' : Phi) (s' : St) (y : d.T) (cs' : Array Value), Ready X φ' s' w ∧ φ.le φ' ∧ Ext s s' ∧ VRel φ' (.agg cs') v ∧ d.Enc s' y cs'.toList := by
  obtain ⟨cs, rfl, _⟩ := okWide_struct hu hv
  obtain ⟨fuel, hfu⟩ := h
  obtain ⟨φ', s', y, cs', q1, q2, q3, q4, q5⟩ := openAt (X := X) hsp hpos d (.inl t) hf fuel _ _ φ s hfu hr
  exact ⟨φ', s', y, cs'.toArray, q1, q2, q3, .agg _ _ q4, q5⟩
theorem WC_of_VC {X : Prg} {f : Nat} {args : List AV} {args' : List Value} {s : St} (h : LaidS X s) (hp : X.laid.all (fun p => p.2.all plainV) = true) (ha : VRs (roWd s) args args') (hc : VC X f args emptyVS fun r _ => r = .c (.bool true)) : WC X f args' s fun r _ => r = .bool true := by
  refine WC_mono (hc (roWd s) s args' (roWd_rel h hp) ha) ?_
  rintro r s' ⟨v, vs', d', rfl, hv, _, _⟩
  cases hv
  rfl
end Go.Proofs.Yticllcglldbffaa.Ab
end
section
namespace Go.Proofs.Yticllcglldbffaa.Ab
theorem flat_split {α : Type} {l : List α} {i : Nat} {p : α} (h : l[i]? = some p) : l = l.take i ++ p :: l.drop (i + 1) := by
  rw [← drop_at h, List.take_append_drop]
section
variable {α : Type} {f : α → List AV} {sz : Nat}
theorem flat_lenf (hz : ∀ x, (f x).length = sz) (l : List α) : (l.map f).flatten.length = l.length * sz := by
  rw [flatten_len (all_map hz), List.length_map]
theorem flat_at (hz : ∀ x, (f x).length = sz) {l : List α} {i : Nat} {p : α} (h : l[i]? = some p) (j m : Nat) (hj : j + m ≤ sz) : ((l.map f).flatten.drop (i * sz + j)).take m = ((f p).drop j).take m := by
  have hi : i < l.length := by
    have := List.getElem?_eq_some_iff.1 h
    exact this.1
  have hl : ((l.take i).map f).flatten.length = i * sz := by
    rw [flat_lenf hz, List.length_take]
    congr 1
    omega
  have e : (l.map f).flatten = ((l.take i).map f).flatten ++ (f p ++ ((l.drop (i + 1)).map f).flatten) := by
    conv => lhs; rw [flat_split h]
    simp only [List.map_append, List.map_cons, List.flatten_append, List.flatten_cons]
  rw [e, List.drop_append, hl]
  have h1 : List.drop (i * sz + j) ((l.take i).map f).flatten = [] := List.drop_eq_nil_of_le (by omega)
  rw [h1, List.nil_append, show i * sz + j - i * sz = j by omega, List.drop_append, List.take_append]
  have h2 := hz p
  rw [show m - (List.drop j (f p)).length = 0 by rw [List.length_drop]; omega, List.take_zero, List.append_nil]
theorem flat_at0 (hz : ∀ x, (f x).length = sz) {l : List α} {i : Nat} {p : α} (h : l[i]? = some p) (m : Nat) (hj : m ≤ sz) : ((l.map f).flatten.drop (i * sz)).take m = (f p).take m := by
  have := flat_at hz h 0 m (by omega)
  rwa [Nat.add_zero, List.drop_zero] at this
theorem flat_over (hz : ∀ x, (f x).length = sz) {l : List α} {i : Nat} {p q : α} (h : l[i]? = some p) (j : Nat) (ws : List AV) (hq : f q = overA (f p) j ws) (hj : j + ws.length ≤ sz) : overA (l.map f).flatten (i * sz + j) ws = ((l.set i q).map f).flatten := by
  have hi : i < l.length := (List.getElem?_eq_some_iff.1 h).1
  have hl : ((l.take i).map f).flatten.length = i * sz := by
    rw [flat_lenf hz, List.length_take]
    congr 1
    omega
  have e : (l.map f).flatten = ((l.take i).map f).flatten ++ (f p ++ ((l.drop (i + 1)).map f).flatten) := by
    conv => lhs; rw [flat_split h]
    simp only [List.map_append, List.map_cons, List.flatten_append, List.flatten_cons]
  have e2 : l.set i q = l.take i ++ q :: l.drop (i + 1) := by
    rw [List.set_eq_take_append_cons_drop, if_pos hi]
  have h2 := hz p
  rw [e2, e]
  simp only [List.map_append, List.map_cons, List.flatten_append, List.flatten_cons]
  rw [hq]
  unfold overA
  rw [List.take_append, List.drop_append, hl]
  rw [List.take_of_length_le (by omega : ((l.take i).map f).flatten.length ≤ i * sz + j), show i * sz + j - i * sz = j by omega, List.take_append, show j - (f p).length = 0 by omega, List.take_zero, List.append_nil]
  have h1 : List.drop (i * sz + j + ws.length) ((l.take i).map f).flatten = [] := List.drop_eq_nil_of_le (by omega)
  rw [h1, List.nil_append, show i * sz + j + ws.length - i * sz = j + ws.length by omega, List.drop_append, show j + ws.length - (f p).length = 0 by omega, List.drop_zero]
  simp only [List.append_assoc]
theorem flat_over0 (hz : ∀ x, (f x).length = sz) {l : List α} {i : Nat} {p q : α} (h : l[i]? = some p) (ws : List AV) (hq : f q = overA (f p) 0 ws) (hj : ws.length ≤ sz) : overA (l.map f).flatten (i * sz) ws = ((l.set i q).map f).flatten := by
  have := flat_over hz h 0 ws hq (by omega)
  rwa [Nat.add_zero] at this
theorem flat_set (hz : ∀ x, (f x).length = sz) {l : List α} {i : Nat} {p q : α} (h : l[i]? = some p) (j : Nat) (w : AV) (hq : f q = overA (f p) j [w]) (hj : j + 1 ≤ sz) : (l.map f).flatten.take (i * sz + j) ++ [w] ++ (l.map f).flatten.drop (i * sz + j + 1) = ((l.set i q).map f).flatten :=
  flat_over hz h j [w] hq hj
theorem flat_set0 (hz : ∀ x, (f x).length = sz) {l : List α} {i : Nat} {p q : α} (h : l[i]? = some p) (w : AV) (hq : f q = overA (f p) 0 [w]) (hj : 1 ≤ sz) : (l.map f).flatten.take (i * sz) ++ [w] ++ (l.map f).flatten.drop (i * sz + 1) = ((l.set i q).map f).flatten :=
  flat_over0 hz h [w] hq hj
end
theorem KeepA.gets {a b : VS} (h : KeepA a b) : ∀ c, c < a.size → b.get c = a.get c := fun c hc => (h.2 c hc).1
theorem KeepA.vers {a b : VS} (h : KeepA a b) : ∀ c, c < a.size → b.ver c = a.ver c := fun c hc => (h.2 c hc).2
theorem Se.int {X : Prg} {P N : Nat → Prop} {vs : VS} {k : IntKind} {a b : Int} (h : a = b) : Se X P N vs (.c (.int k a)) (.c (.int k b)) := Se.ci h
theorem Se.box {X : Prg} {N : Nat → Prop} {vs : VS} {b e n : Nat} {v w : AV} (hg : vs.get b = some (.own ⟨[v], e, 0, 0, false⟩)) (hb : n ≤ b) (h : Se X (n ≤ ·) N vs v w) : Se X (n ≤ ·) N vs (.ptr ⟨b, 0, none⟩) (.fptr [w] 0) :=
  Se.ptr (r := ⟨[v], e, 0, 0, false⟩) hg hb rfl rfl (Ses.cons h Ses.nil)
end Go.Proofs.Yticllcglldbffaa.Ab
end
section
namespace Go.Proofs.Yticllcglldbffaa.Ab
theorem wrap_u8 {x : Int} : IntKind.u8.wrap x = x % 256 := by simp [IntKind.wrap, IntKind.bits, IntKind.signed]
theorem wrap_u16 {x : Int} : IntKind.u16.wrap x = x % 65536 := by simp [IntKind.wrap, IntKind.bits, IntKind.signed]
theorem wrap_u32 {x : Int} : IntKind.u32.wrap x = x % 4294967296 := by simp [IntKind.wrap, IntKind.bits, IntKind.signed]
theorem wrap_u64 {x : Int} : IntKind.u64.wrap x = x % 18446744073709551616 := by simp [IntKind.wrap, IntKind.bits, IntKind.signed]
theorem wrap_i32 {x : Int} (h1 : -2147483648 ≤ x) (h2 : x < 2147483648) : IntKind.i32.wrap x = x := by
  rw [IntKind.wrap_i32]; omega
theorem emod_small {x n : Int} (h1 : 0 ≤ x) (h2 : x < n) : x % n = x := Int.emod_eq_of_lt h1 h2
theorem tdiv_pos {x n : Int} (h : 0 ≤ x) : x.tdiv n = x / n := Int.tdiv_eq_ediv_of_nonneg h
theorem tmod_pos {x n : Int} (h : 0 ≤ x) : x.tmod n = x % n := Int.tmod_eq_emod_of_nonneg h
theorem fdiv_pos {x n : Int} (h : 0 ≤ n) : x.fdiv n = x / n := Int.fdiv_eq_ediv_of_nonneg x h
section
variable (X : Prg) (t : TypeId) (k k' : IntKind) (a b : Int)
theorem bin_shr : binOpv X .shr t (.int k a) (.int k' b) = if b < 0 then none else some (.int k (a.fdiv (2 ^ (min b.toNat k.bits)))) := rfl
theorem bin_shl : binOpv X .shl t (.int k a) (.int k' b) = if b < 0 then none else some (.int k (k.wrap (a * 2 ^ (min b.toNat k.bits)))) := rfl
theorem bin_and : binOpv X .and t (.int k a) (.int k b) = (bitsI .and k a b).map (.int k) := by simp [binOpv, intOp]
theorem bin_or : binOpv X .or t (.int k a) (.int k b) = (bitsI .or k a b).map (.int k) := by simp [binOpv, intOp]
theorem bin_xor : binOpv X .xor t (.int k a) (.int k b) = (bitsI .xor k a b).map (.int k) := by simp [binOpv, intOp]
end
theorem shr_i32 {X : Prg} {t : TypeId} {k' : IntKind} {a b : Int} (h0 : 0 ≤ b) (h1 : b < 32) : binOpv X .shr t (.int .i32 a) (.int k' b) = some (.int .i32 (a / 2 ^ b.toNat)) := by
  rw [bin_shr, if_neg (by omega), show min b.toNat (IntKind.bits .i32) = b.toNat from by show min b.toNat 32 = _; omega, Int.fdiv_eq_ediv_of_nonneg _ (Int.pow_nonneg (by decide))]
theorem shr_u32 {X : Prg} {t : TypeId} {k' : IntKind} {a b : Int} (h0 : 0 ≤ b) (h1 : b < 32) : binOpv X .shr t (.int .u32 a) (.int k' b) = some (.int .u32 (a / 2 ^ b.toNat)) := by
  rw [bin_shr, if_neg (by omega), show min b.toNat (IntKind.bits .u32) = b.toNat from by show min b.toNat 32 = _; omega, Int.fdiv_eq_ediv_of_nonneg _ (Int.pow_nonneg (by decide))]
theorem shr_i64 {X : Prg} {t : TypeId} {k' : IntKind} {a b : Int} (h0 : 0 ≤ b) (h1 : b < 64) : binOpv X .shr t (.int .i64 a) (.int k' b) = some (.int .i64 (a / 2 ^ b.toNat)) := by
  rw [bin_shr, if_neg (by omega), show min b.toNat (IntKind.bits .i64) = b.toNat from by show min b.toNat 64 = _; omega, Int.fdiv_eq_ediv_of_nonneg _ (Int.pow_nonneg (by decide))]
theorem shr_u64 {X : Prg} {t : TypeId} {k' : IntKind} {a b : Int} (h0 : 0 ≤ b) (h1 : b < 64) : binOpv X .shr t (.int .u64 a) (.int k' b) = some (.int .u64 (a / 2 ^ b.toNat)) := by
  rw [bin_shr, if_neg (by omega), show min b.toNat (IntKind.bits .u64) = b.toNat from by show min b.toNat 64 = _; omega, Int.fdiv_eq_ediv_of_nonneg _ (Int.pow_nonneg (by decide))]
theorem shr_u8 {X : Prg} {t : TypeId} {k' : IntKind} {a b : Int} (h0 : 0 ≤ b) (h1 : b < 8) : binOpv X .shr t (.int .u8 a) (.int k' b) = some (.int .u8 (a / 2 ^ b.toNat)) := by
  rw [bin_shr, if_neg (by omega), show min b.toNat (IntKind.bits .u8) = b.toNat from by show min b.toNat 8 = _; omega, Int.fdiv_eq_ediv_of_nonneg _ (Int.pow_nonneg (by decide))]
theorem bits_u8 : IntKind.bits .u8 = 8 := rfl
theorem bits_i32 : IntKind.bits .i32 = 32 := rfl
theorem bits_u32 : IntKind.bits .u32 = 32 := rfl
theorem bits_i64 : IntKind.bits .i64 = 64 := rfl
theorem bits_u64 : IntKind.bits .u64 = 64 := rfl
theorem ofInt8 {x : Int} (h : 0 ≤ x ∧ x < 256) : (BitVec.ofInt 8 x).toNat = x.toNat := by
  rw [BitVec.toNat_ofInt]; omega
theorem bitsI_or8 {x y : Int} : bitsI .or .u8 x y = some (IntKind.u8.wrap ((BitVec.ofInt 8 x ||| BitVec.ofInt 8 y : BitVec 8).toNat : Nat)) := rfl
theorem bitsI_and8 {x y : Int} : bitsI .and .u8 x y = some (IntKind.u8.wrap ((BitVec.ofInt 8 x &&& BitVec.ofInt 8 y : BitVec 8).toNat : Nat)) := rfl
theorem or_gen {c y : Int} (i a : Nat) (hc : c = ((2 ^ i * a : Nat) : Int)) (hc2 : c < 256) (h0 : 0 ≤ y) (h1 : y < 2 ^ i) (h2 : c + y < 256) : bitsI .or .u8 c y = some (c + y) := by
  have e : ((2 ^ i : Nat) : Int) = (2 : Int) ^ i := by norm_cast
  have hy : y.toNat < 2 ^ i := by omega
  rw [bitsI_or8, BitVec.toNat_or, wrap_u8, ofInt8 ⟨by omega, hc2⟩, ofInt8 ⟨h0, by omega⟩]
  have h3 : c.toNat = 2 ^ i * a := by omega
  rw [h3, ← Nat.two_pow_add_eq_or_of_lt hy]
  congr 1
  omega
theorem or_192 {y : Int} (h0 : 0 ≤ y) (h1 : y < 64) : bitsI .or .u8 192 y = some (192 + y) := or_gen 6 3 rfl (by omega) h0 h1 (by omega)
theorem or_224 {y : Int} (h0 : 0 ≤ y) (h1 : y < 32) : bitsI .or .u8 224 y = some (224 + y) := or_gen 5 7 rfl (by omega) h0 h1 (by omega)
theorem or_240 {y : Int} (h0 : 0 ≤ y) (h1 : y < 16) : bitsI .or .u8 240 y = some (240 + y) := or_gen 4 15 rfl (by omega) h0 h1 (by omega)
theorem or_128 {y : Int} (h0 : 0 ≤ y) (h1 : y < 128) : bitsI .or .u8 128 y = some (128 + y) := or_gen 7 1 rfl (by omega) h0 h1 (by omega)
theorem and_63 {y : Int} (h0 : 0 ≤ y) (h1 : y < 256) : bitsI .and .u8 y 63 = some (y % 64) := by
  rw [bitsI_and8, BitVec.toNat_and, wrap_u8, ofInt8 ⟨h0, h1⟩, ofInt8 ⟨by omega, by omega⟩]
  have := Nat.and_two_pow_sub_one_eq_mod y.toNat 6
  have e : (63 : Int).toNat = 2 ^ 6 - 1 := rfl
  rw [e, this]
  congr 1
  omega
@[reducible] def tx (l : List UInt8) : AV := .c (.string ⟨l.toArray⟩)
theorem bsize (l : List UInt8) : ByteArray.size ⟨l.toArray⟩ = l.length := by simp [ByteArray.size]
theorem bytes_mk (b : ByteArray) : ByteArray.mk b.data.toList.toArray = b := by cases b; simp
theorem bextract (l : List UInt8) (i j : Nat) : ByteArray.extract ⟨l.toArray⟩ i j = ⟨((l.take j).drop i).toArray⟩ := by
  apply ByteArray.ext
  rw [ByteArray.data_extract]
  simp only [List.extract_toArray, List.extract_eq_take_drop]
  rw [List.drop_take]
theorem bin_adds {X : Prg} {t : TypeId} (a b : List UInt8) : binOpv X .add t (.string ⟨a.toArray⟩) (.string ⟨b.toArray⟩) = if a.length + b.length ≤ 140737488355328 then some (.string ⟨(a ++ b).toArray⟩) else none := by
  simp [binOpv, strOp, ByteArray.size]
def cB (c : UInt8) : AV := .c (.int .u8 c.toNat)
theorem bI_nil : bytesIn [] = some [] := rfl
theorem bI_cons (n : Int) (r : List Value) : bytesIn (.int .u8 n :: r) = (bytesIn r).map (UInt8.ofNat n.toNat :: ·) := rfl
theorem bytesIn_map (l : List UInt8) : bytesIn (l.map fun c => Value.int .u8 (c.toNat : Int)) = some l := by
  induction l with
  | nil => rfl
  | cons a l ih => simp [bytesIn, ih]
theorem bytesOut_eq (l : List UInt8) : (bytesOut l).map AV.c = l.map cB := by simp [bytesOut, cB, Function.comp_def]
theorem lows_mcB (l : List UInt8) : lows (l.map cB) = some (l.map fun c => Value.int .u8 (c.toNat : Int)) := by
  have : l.map cB = (l.map fun c => Value.int .u8 (c.toNat : Int)).map .c := by simp [cB, Function.comp_def]
  rw [this, los_map]
theorem lows_cB (l : List UInt8) : (lows (l.map cB)).bind bytesIn = some l := by
  have : l.map cB = (l.map fun c => Value.int .u8 (c.toNat : Int)).map .c := by simp [cB, Function.comp_def]
  rw [this, los_map, Option.bind_some, bytesIn_map]
theorem out_tx {X : Prg} {vs vs' : VS} {a b : List UInt8} (hk : KeepA vs vs') (h : a = b) : outP X vs (tx b) (tx a) vs' := by subst h; exact ⟨hk, Se.c _⟩
theorem byte_lt (c : UInt8) : (c.toNat : Int) < 256 := by have := c.toNat_lt; omega
theorem byte_of {n : Nat} (h : n < 256) : ((UInt8.ofNat n).toNat : Int) = n := by rw [UInt8.toNat_ofNat_of_lt' (by simpa using h)]
end Go.Proofs.Yticllcglldbffaa.Ab
end
section
namespace Go.Proofs.Yticllcglldbffaa.Ab
variable {X : Prg} {s0 s : VS}
inductive Gw (s0 s : VS) (e sz : Nat) : AV → Nat → List AV → Prop
  | nil : Gw s0 s e sz (.c (.slice none 0 0)) 0 []
  | emp : Gw s0 s e sz .emp 0 []
  | row (b : Nat) (sp : Option Nat) (n : Nat) (cs : List AV) : s.get b = some (.own ⟨cs, e, sp.getD 0, 0, false⟩) → s0.size ≤ b → cs.length = n * sz → Gw s0 s e sz (.sl ⟨b, 0, sp⟩ n (capO n)) n cs
  | room (b n N : Nat) (cs zs : List AV) (e' : Nat) : s.get b = some (.own ⟨cs ++ zs, e', 0, 0, false⟩) → s0.size ≤ b → cs.length = n * sz → (cs ++ zs).length = N * sz → n ≤ N → Gw s0 s e sz (.sl ⟨b, 0, none⟩ n (capX N)) n cs
variable {e sz n : Nat} {v : AV} {cs : List AV}
theorem Gw.cast {n' : Nat} {cs' : List AV} (h : Gw s0 s e sz v n cs) (h1 : n = n') (h2 : cs = cs') : Gw s0 s e sz v n' cs' := by subst h1 h2; exact h
theorem Gw.len (h : Gw s0 s e sz v n cs) : cs.length = n * sz := by cases h <;> simp_all
theorem Gw.blk (h : Gw s0 s e sz v n cs) {b : Nat} (hb : blkOf v = some b) : s0.size ≤ b ∧ b < s.size := by
  cases h with
  | nil => simp [blkOf] at hb
  | emp => simp [blkOf] at hb
  | row b' sp n cs h1 h2 h3 => simp [blkOf] at hb; subst hb; exact ⟨h2, VS.lt_of_get h1⟩
  | room b' n N cs zs e' h1 h2 h3 h4 h5 => simp [blkOf] at hb; subst hb; exact ⟨h2, VS.lt_of_get h1⟩
theorem Gw.get {s' : VS} (h : Gw s0 s e sz v n cs) (hg : ∀ b, blkOf v = some b → s'.get b = s.get b) : Gw s0 s' e sz v n cs := by
  cases h with
  | nil => exact .nil
  | emp => exact .emp
  | row b sp n cs h1 h2 h3 => exact .row b sp n cs ((hg b rfl).trans h1) h2 h3
  | room b n N cs zs e' h1 h2 h3 h4 h5 => exact .room b n N cs zs e' ((hg b rfl).trans h1) h2 h3 h4 h5
theorem Gw.push (h : Gw s0 s e sz v n cs) (o : VO) : Gw s0 (s.push o) e sz v n cs := h.get fun b hb => gp_ne (by have := (h.blk hb).2; omega)
theorem Gw.set (h : Gw s0 s e sz v n cs) {c : Nat} (hc : blkOf v ≠ some c) (o : VO) : Gw s0 (s.set c o) e sz v n cs := h.get fun b hb => gs_ne (by rintro rfl; exact hc hb)
theorem Gw.keep {s' : VS} (h : Gw s0 s e sz v n cs) (k : KeepA s s') : Gw s0 s' e sz v n cs := h.get fun b hb => (k.2 b (h.blk hb).2).1
theorem Gw.isSl (h : Gw s0 s e sz v n cs) (hn : 0 < n) : ∃ a c, v = .sl a n c := by
  cases h with
  | nil => omega
  | emp => omega
  | row b sp n cs h1 h2 h3 => exact ⟨_, _, rfl⟩
  | room b n N cs zs e' h1 h2 h3 h4 h5 => exact ⟨_, _, rfl⟩
theorem Gw.mono {s1 : VS} (h : Gw s0 s e sz v n cs) (hs : s1.size ≤ s0.size) : Gw s1 s e sz v n cs := by
  cases h with
  | nil => exact .nil
  | emp => exact .emp
  | row b sp n cs h1 h2 h3 => exact .row b sp n cs h1 (Nat.le_trans hs h2) h3
  | room b n N cs zs e' h1 h2 h3 h4 h5 => exact .room b n N cs zs e' h1 (Nat.le_trans hs h2) h3 h4 h5
theorem Gw.lenA (h : Gw s0 s e sz v n cs) {t e1 b c : Nat} {z : Value} (ht : X.ty t = some ⟨.slice e1, b, c, z⟩) (s2 : VS) : lenA X t v s2 = some (n : Int) := by
  cases h <;> simp only [Ab.lenA, ht] <;> rfl
theorem But.kw {s' : VS} (h : But s s' v) (k : KeepA s0 s) (hg : Gw s0 s e sz v n cs) : KeepA s0 s' := by
  refine ⟨Nat.le_trans k.1 h.1, fun b hb => ?_⟩
  have h1 := h.2 b (Nat.lt_of_lt_of_le hb k.1) (fun he => by have := (hg.blk he).1; omega)
  have h2 := k.2 b hb
  exact ⟨h1.1.trans h2.1, h1.2.trans h2.2⟩
theorem But.refl (v : AV) : But s s v := ⟨Nat.le_refl _, fun _ _ _ => ⟨rfl, rfl⟩⟩
theorem But.push (o : VO) (v : AV) : But s (s.push o) v := ⟨by rw [vz_push]; omega, fun b hb _ => ⟨gp_ne (by omega), rfl⟩⟩
theorem But.trans {s1 s2 : VS} {u : AV} (h : But s s1 v) (k : But s1 s2 u) (hu : ∀ b, b < s.size → blkOf u = some b → blkOf v = some b) : But s s2 v := ⟨Nat.le_trans h.1 k.1, fun b hb hne => by
  have h1 := h.2 b hb hne
  have h2 := k.2 b (Nat.lt_of_lt_of_le hb h.1) (fun hx => hne (hu b hb hx))
  exact ⟨h2.1.trans h1.1, h2.2.trans h1.2⟩⟩
theorem Gw.append {te : Ty} {m : Nat} {ws : List AV} (h : Gw s0 s e sz v n cs) (hk : s0.size ≤ s.size) (hz : te.size = sz) (hw : ws.length = m * sz) (ho : ws.all oneA = true) (hr : roomOk (n + m) te.bytes = true) :
    ∃ v' s', appendToA te e m ws v s = some (v', s') ∧ Gw s0 s' e sz v' (n + m) (cs ++ ws) ∧ But s s' v ∧ ∀ b, b < s.size → blkOf v' = some b → blkOf v = some b := by
  by_cases hm : m = 0
  · subst hm
    have hw0 : ws = [] := List.eq_nil_of_length_eq_zero (by omega)
    subst hw0
    refine ⟨v, s, ?_, by rw [List.append_nil]; exact h, ⟨Nat.le_refl _, fun _ _ _ => ⟨rfl, rfl⟩⟩, fun _ _ h => h⟩
    cases h <;> simp [appendToA]
  · have hpush : ∀ (r : VRow), But s (s.push (.own r)) v := fun r => ⟨by rw [vz_push]; omega, fun b hb _ => ⟨gp_ne (by omega), rfl⟩⟩
    have hnew : ∀ b, b < s.size → blkOf (.sl ⟨s.size, 0, none⟩ (n + m) (capO (n + m))) = some b → blkOf v = some b := fun b hb h => by simp [blkOf] at h; omega
    cases h with
    | nil =>
      rw [Nat.zero_add] at hr
      exact ⟨_, _, by simp only [appendToA, if_neg hm]; rw [if_pos hr]; simp only [Nat.zero_add]; rfl, .row s.size none (0 + m) ([] ++ ws) (gp_eq rfl) hk (by simpa using hw), hpush _, by simpa using hnew⟩
    | emp =>
      rw [Nat.zero_add] at hr
      exact ⟨_, _, by simp only [appendToA, if_neg hm]; rw [if_pos hr]; simp only [Nat.zero_add]; rfl, .row s.size none (0 + m) ([] ++ ws) (gp_eq rfl) hk (by simpa using hw), hpush _, by simpa using hnew⟩
    | row b sp n cs h1 h2 h3 =>
      have hb := VS.lt_of_get h1
      have hc : roomOk (n + m) te.bytes = true ∧ ep (⟨b, 0, sp⟩ : Addr) = sp.getD 0 ∧ (⟨b, 0, sp⟩ : Addr).off = 0 ∧ cs.length = n * te.size ∧ e = e ∧ ws.all oneA = true ∧ 0 ≤ n * te.size ∧ false = false := ⟨hr, rfl, rfl, by rw [hz]; exact h3, rfl, ho, Nat.zero_le _, rfl⟩
      refine ⟨.sl ⟨b, 0, some (sp.getD 0 + 1)⟩ (n + m) (capO (n + m)), s.set b (.own ⟨cs ++ ws, e, sp.getD 0 + 1, 0, false⟩), ?_, ?_, ?_, fun c _ h => by simpa [blkOf] using h⟩
      · simp only [appendToA, if_neg hm, capO_half, capO_mod]
        rw [if_neg (by omega), if_neg (by omega)]
        simp only [h1]
        exact if_pos (by simpa using hc)
      · exact .row b (some (sp.getD 0 + 1)) (n + m) _ (gs_eq rfl hb) h2 (by rw [List.length_append, h3, hw, Nat.add_mul])
      · refine ⟨by rw [vz_set]; exact Nat.le_refl _, fun c hc' hne => ?_⟩
        have : c ≠ b := by rintro rfl; exact hne rfl
        exact ⟨gs_ne this, vs_ver this⟩
    | room b n N cs zs e' h1 h2 h3 h4 h5 =>
      have hb := VS.lt_of_get h1
      by_cases hN : n + m ≤ N
      · have hle : n * sz + m * sz ≤ N * sz := by rw [← Nat.add_mul]; exact Nat.mul_le_mul_right sz hN
        have hwr : s.wr (Addr.fwd ⟨b, 0, none⟩ (n * te.size)) ws = some (s.set b (.own ⟨overA (cs ++ zs) (n * sz) ws, e', 0, 0, false⟩)) := by
          rw [show Addr.fwd ⟨b, 0, none⟩ (n * te.size) = ⟨b, n * sz, none⟩ by simp [Addr.fwd, hz], wr_mkA, h1, wv_own, if_pos ⟨rfl, by rw [h4, hw]; exact hle, Nat.zero_le _, rfl, ho⟩]
        refine ⟨_, _, by simp only [appendToA, if_neg hm, capX_half, if_pos hN, hwr, Option.map_some]; rfl, ?_, ?_, fun c _ h => by simpa [blkOf] using h⟩
        · rw [over_fill h3]
          refine .room b (n + m) N (cs ++ ws) (zs.drop ws.length) e' (gs_eq rfl hb) h2 (by rw [List.length_append, h3, hw, Nat.add_mul]) ?_ hN
          rw [List.length_append] at h4
          simp only [List.length_append, List.length_drop]
          omega
        · refine ⟨by rw [vz_set]; exact Nat.le_refl _, fun c hc' hne => ?_⟩
          have : c ≠ b := by rintro rfl; exact hne rfl
          exact ⟨gs_ne this, vs_ver this⟩
      · have hrd : s.rd ⟨b, 0, none⟩ (n * te.size) = some cs := by
          have hle : n * sz ≤ N * sz := Nat.mul_le_mul_right sz h5
          rw [rd_mk, h1, rv_own, hz, if_pos ⟨rfl, by rw [h4]; omega⟩, List.drop_zero, ← h3, List.take_left' rfl]
        refine ⟨_, _, ?_, .row s.size none (n + m) (cs ++ ws) (gp_eq rfl) hk (by rw [List.length_append, h3, hw, Nat.add_mul]), hpush _, hnew⟩
        simp only [appendToA, if_neg hm, capX_half, capX_mod, hrd, Option.map_some, if_neg hN]
        rw [if_pos (by decide), if_pos hr]
        rfl
theorem Gw.step {te : Ty} {m : Nat} {ws : List AV} {k : AV → VS → Prop} (h : Gw s0 s e sz v n cs) (hk : KeepA s0 s) (hz : te.size = sz) (hw : ws.length = m * sz) (ho : ws.all oneA = true) (hr : roomOk (n + m) te.bytes = true)
    (hK : ∀ v' s', Gw s0 s' e sz v' (n + m) (cs ++ ws) → But s s' v → (∀ b, b < s.size → blkOf v' = some b → blkOf v = some b) → KeepA s0 s' → k v' s') : contA (appendToA te e m ws v s) k := by
  obtain ⟨v', s', h1, h2, h3, h4⟩ := h.append hk.1 hz hw ho hr
  rw [h1, ct_some]
  exact hK v' s' h2 h3 h4 (h3.kw hk h)
theorem Gw.se {P N : Nat → Prop} (h : Gw s0 s e sz v n cs) (hp : ∀ b, s0.size ≤ b → P b) {xs : List (List AV)} (hx : cs = xs.flatten) (hz : ∀ x ∈ xs, x.length = sz) (hn : n = xs.length) (hf : FirmR cs) : Se X P N s v (.lst sz xs) := by
  cases h with
  | nil => have : xs = [] := List.eq_nil_of_length_eq_zero hn.symm
           subst this; exact Se.nil sz
  | emp => have : xs = [] := List.eq_nil_of_length_eq_zero hn.symm
           subst this; exact Se.emp sz
  | row b sp n cs h1 h2 h3 =>
    refine Se.sl h1 (hp _ h2) rfl ?_ (by rw [capO_half]; omega) hn.symm hz ?_
    · show 0 + n * sz ≤ cs.length; omega
    · show Ses X P N s ((cs.drop 0).take (n * sz)) xs.flatten
      rw [List.drop_zero, ← h3, List.take_length, hx]
      exact Ses.firm (hx ▸ hf)
  | room b n M cs zs e' h1 h2 h3 h4 h5 =>
    have hle : n * sz ≤ M * sz := Nat.mul_le_mul_right sz h5
    refine Se.sl h1 (hp _ h2) rfl ?_ (by rw [capX_half]; omega) hn.symm hz ?_
    · show 0 + n * sz ≤ (cs ++ zs).length; omega
    · show Ses X P N s (((cs ++ zs).drop 0).take (n * sz)) xs.flatten
      rw [List.drop_zero, ← h3, List.take_left' rfl, hx]
      exact Ses.firm (hx ▸ hf)
theorem Gw.out (h : Gw s0 s e sz v n cs) (hk : KeepA s0 s) {xs : List (List AV)} (hx : cs = xs.flatten) (hz : ∀ x ∈ xs, x.length = sz) (hf : FirmR cs) (hs : 0 < sz) : outP X s0 (.lst sz xs) v s := by
  refine ⟨hk, h.se (fun b hb => hb) hx hz ?_ hf⟩
  have h1 := h.len
  rw [hx, flatten_len hz] at h1
  exact (Nat.eq_of_mul_eq_mul_right hs h1).symm
theorem Gw.outm {α : Type} {f : α → List AV} {l : List α} (h : Gw s0 s e sz v n (l.map f).flatten) (hk : KeepA s0 s) (hz : ∀ x, (f x).length = sz) (hf : ∀ x, FirmR (f x)) (hs : 0 < sz) : outP X s0 (.lst sz (l.map f)) v s :=
  h.out hk rfl (all_map hz) (FirmR.flat (all_map hf)) hs
theorem Gw.text {l : List UInt8} (h : Gw s0 s e 1 v n (l.map cB)) {t1 t2 : TypeId} {ts td : Ty} {e1 : TypeId} (h1 : X.ty t1 = some ts) (h2 : X.ty t2 = some td) (hs : ts.und = .slice e1) (hd : td.und = .string) (hu : X.und e1 = some (.int .u8)) : convertA X t1 t2 v s = some (tx l, s) := by
  have hl := h.len
  simp only [List.length_map, Nat.mul_one] at hl
  unfold convertA
  simp only [h1, h2, hs, hd, hu]
  generalize hc : l.map cB = q at h
  cases h with
  | nil => rw [List.map_eq_nil_iff.1 hc]; rfl
  | emp => rw [List.map_eq_nil_iff.1 hc]; rfl
  | row b sp n cs g1 g2 g3 =>
    subst hc
    have hrd : s.rd ⟨b, 0, sp⟩ n = some (l.map cB) := by
      rw [rd_mk, g1, rv_own, if_pos ⟨rfl, by simp [hl]⟩, List.drop_zero, List.take_of_length_le (by simp [hl])]
    simp only [hrd, Option.bind_some, lows_cB, Option.map_some]
  | room b n N cs zs e' g1 g2 g3 g4 g5 =>
    subst hc
    have hrd : s.rd ⟨b, 0, none⟩ n = some (l.map cB) := by
      rw [rd_mk, g1, rv_own, if_pos ⟨rfl, by rw [g4]; omega⟩, List.drop_zero, ← hl, List.take_left' (by simp)]
    simp only [hrd, Option.bind_some, lows_cB, Option.map_some]
end Go.Proofs.Yticllcglldbffaa.Ab
end
section
namespace Go.Proofs.Yticllcglldbffaa.Ab
attribute [push_cast] vs_nil vs_always vs_never vs_on ga_true ga_false ct_some rt_some st_some cl_some KA_eq kd_0 kd_1 kd_2 vd_nil vd_always vd_on gd_true gd_false zipD_cons
attribute [push_cast] zipD_nil pa_nil pa_cons pq_some pq_none ka_nil ka_cons kq_some lh_cons lh_nil sc_some sc_none lookN_cons lookN_nil oa_move oa_assign oa_pick oa_bin oa_un oa_load
attribute [push_cast] oa_nilCheck oa_fieldAddr oa_field oa_indexAddr oa_index oa_slice oa_build oa_lookup oa_extract oa_store oa_mapUpdate oa_convert oa_builtin oa_call oa_makeFunc oa_bs bs_0 bs_1 bs_2 bs_3
attribute [push_cast] bs_4 oa_alloc oa_box oa_makeSlice oa_makeMap oa_range oa_next pA_some pA_none eA_tmp eA_const eA_func eA_glob AEnv.get_set ofA_get cv_int cv_bool cv_string cv_ptr cv_slice
attribute [push_cast] cv_map cv_nilFunc cv_nilIface cv_agg at_int at_bool at_string at_ptr at_slice at_map at_nilFunc bo_c fu_fn tu_tup pk_true pk_false lo_c los_nil los_cons los_map
attribute [push_cast] bi_eqagg bi_neagg ea_some pp_ptr pp_same bi_eqpp bi_nepp nq_ptr nq_fptr nq_sl nq_lst nq_map nq_fn bi_eqp bi_nep bi_eqf bi_nef bi_eqs bi_nes bi_eqm
attribute [push_cast] bi_nem bi_eqfn bi_nefn una_c bk_cc bk_agg bk_ptr bk_fptr bk_sl bk_map bk_fn bk_leq bk_lne bk_eeq bk_ene isl_slice bin_add bin_sub bin_mul bin_quo
attribute [push_cast] bin_rem bin_lss bin_leq bin_gtr bin_geq bin_eql bin_neq un_not un_neg eq_bool ne_bool undB_bool undP_ptr undS_slice undM_map eq_ptr_nil ne_ptr_nil eq_slice_nil ne_slice_nil eq_str
attribute [push_cast] ne_str aggO_some flatO_some andO_some flats_nil flats_cons flat_int flat_bool flat_str wv_bool wv_undef vz_push vz_set gp_ne gp_eq gs_ne gs_eq vp_ver vs_ver rd_mk
attribute [push_cast] rv_own wr_mkA wv_own ld_ptr lp_some ld_fptr lf_some m_take m_drop m_get fwd_fwd fwd_mk fwd_block Addr.fwd_zero toNat_cast toNat_add_lit toNat_add2 cast_zero' cast_lit wrap64
attribute [push_cast] if_and if_le if_lt if_leI if_ltI one_ne_zero' zero_ne_one' cells_int cells_bool cells_string cells_ptr cells_slice cells_map cells_nilFunc cells_nilIface cells_agg one_int one_bool one_string one_ptr
attribute [push_cast] one_slice one_map one_nilFunc sqN sqE sqG sqR bkN bkE bkG bkR cdT cdF itN itE itG itR rt_ret rt_normal rq_some
attribute [push_cast] rs_nil rs_tmp ca_some rs_cell ta_nil ta_one ta_more sc_nil sc_emp sc_lst cl_slice sc_sl sc_str bd_none bd_some mx_none mx_some capO_half capX_half capO_mod
attribute [push_cast] capX_mod lt_1 lt_2 lt_3 lt_4 lt_5 lt_6 lt_7 tn_add tn_sub tn_mul sq_none sq_nil sq_cons ke_same ke_false ke_none eS_tmp eS_const eS_glob
attribute [push_cast] rg_c wrap_u8 wrap_u16 wrap_u32 wrap_u64 wrap_i32 emod_small tdiv_pos tmod_pos fdiv_pos shr_i32 shr_u32 shr_i64 shr_u64 shr_u8 bin_shl bin_and bin_or bin_xor bits_u8
attribute [push_cast] bits_i32 bits_u32 bits_i64 bits_u64 or_192 or_224 or_240 or_128 and_63 bsize bextract bin_adds bI_nil bI_cons tn_div tn_mod lows_mcB bytesIn_map sc_ptr sc_fptr
attribute [push_cast] List.toList_toArray List.map_cons List.map_nil List.getElem?_toArray List.getElem?_cons_succ List.getElem?_cons_zero Option.bind_some Option.bind_none Option.map_some Option.map_none and_self Nat.add_zero Nat.zero_add eq_self Bool.false_eq_true Bool.true_eq_false Bool.not_true Bool.not_false beq_self_eq_true Bool.true_beq
attribute [push_cast] Bool.false_beq beq_true beq_false and_true true_and and_false false_and ne_eq not_false_eq_true not_true_eq_false List.cons_append List.nil_append List.append_nil Option.some.injEq decide_true decide_false List.getD_cons_zero List.getD_cons_succ Nat.succ_ne_self Nat.mul_one
attribute [push_cast] Nat.one_mul Nat.zero_mul List.map_toArray Option.getD_some Option.getD_none List.take_succ_cons List.take_zero List.take_nil List.drop_succ_cons List.drop_zero List.drop_nil List.length_cons List.length_nil List.length_map List.size_toArray Nat.sub_self Nat.sub_zero Nat.le_refl Nat.zero_le List.all_cons
attribute [push_cast] List.all_nil Bool.and_self Bool.and_true Bool.true_and Bool.and_false Bool.false_and Option.isNone_some Option.isNone_none Option.isSome_some Option.isSome_none decide_not Bool.not_eq_true Int.sub_zero Int.add_zero Int.zero_add Int.natCast_add List.contains_cons List.contains_nil Bool.or_false Bool.false_or
attribute [push_cast] Bool.or_true Bool.true_or Nat.ble_eq Nat.add_lt_add_iff_right newA bsliceA mksliceA mkmapA rangeA nextA storeA cellsA oneA overA fillA partsA buildA places oneOf Ty.agg
attribute [push_cast] partA fieldA fieldAddrA indexAddrA indexA lenA cutL cutE slCut stCut convertA builtinA appendA fromA copyA copyToA clearA unsafeStrA dstA lenOfA
attribute [push_cast] firstA lookupA entriesA mapUpdateA deleteA nilCheckA strip1 rdArg blkOf keepsA keptA lenOnly selfA selfB plainA isEff isNew reps foldv min2v
attribute [push_cast] max2v valA arCut faCut
end Go.Proofs.Yticllcglldbffaa.Ab
end
