import Derived.Test.YticllcglldbffaaDoorD2
import Derived.Test.YticllcglldbffaaDoorC4
set_option linter.unusedSimpArgs false
set_option linter.unusedVariables false
set_option linter.unusedSectionVars false
section
namespace Go.Proofs.YticllcglldbffaaDoor.Ab
variable {X : Prg} {ρ : au} {s : VS}
theorem alL (ρ : au) (d : Nat) (v : AV) : ρ.put (some d) v = ρ.set d v := rfl
theorem akH (ρ : au) (v : AV) : ρ.put none v = ρ := rfl
theorem aw (ρ : au) (t : Nat) : evA X ρ (.tmp t) = ρ.get t := rfl
theorem aq (ρ : au) (v : Value) : evA X ρ (.const v) = cv v := rfl
theorem alD (ρ : au) (f : FuncId) : evA X ρ (.func f) = .fn f [] [] := rfl
theorem ajA (ρ : au) (g : Nat) : evA X ρ (.global g) = globA X g := rfl
theorem xF : ∀ (l : List AV) (i : Nat) (ρ : au) (t : Nat), (au.fill i l ρ).get t = if i ≤ t ∧ t < i + l.length then l.getD (t - i) (.c undef) else ρ.get t
  | [], i, ρ, t => by
    rw [if_neg (by simp only [List.length_nil]; omega)]; rfl
  | v :: l, i, ρ, t => by
    rw [au.fill, xF l (i + 1), au.get_set]
    by_cases h : i = t
    · subst h
      rw [if_neg (by omega), if_pos rfl, if_pos (by simp)]
      simp
    · rw [if_neg h]
      by_cases h1 : i + 1 ≤ t ∧ t < i + 1 + l.length
      · rw [if_pos h1, if_pos (by simp; omega)]
        have : t - i = (t - (i + 1)) + 1 := by omega
        rw [this]; simp
      · rw [if_neg h1, if_neg (by simp; omega)]
theorem ar (l : List AV) (t : Nat) : (au.of l).get t = l.getD t (.c undef) := by
  unfold au.of
  rw [xF]
  split
  · simp
  · rename_i h
    rw [List.getD_eq_getElem?_getD, List.getElem?_eq_none (by omega)]
    rfl
theorem XD (k : IntKind) (n : Int) : cv (.int k n) = .c (.int k n) := rfl
theorem ak4 (b : Bool) : cv (.bool b) = .c (.bool b) := rfl
theorem R5 (b : ByteArray) : cv (.string b) = .c (.string b) := rfl
theorem atM : cv (.pointer none) = .c (.pointer none) := rfl
theorem VX : cv (.slice none 0 0) = .c (.slice none 0 0) := rfl
theorem J3 : cv .nilFunc = .c .nilFunc := rfl
theorem II : cv .nilIface = .c .nilIface := rfl
theorem ax9 (b : Bool) : ql (.c (.bool b)) = some b := rfl
theorem awL (f : Nat) (a b : List AV) : ST (.fn f a b) = some (f, a, b) := rfl
theorem as8 (vs : List AV) (i : Nat) : ak0 (.tup vs) i = vs[i]? := rfl
theorem akQ (a b : AV) : HY (some true) a b = some a := rfl
theorem af0 (a b : AV) : HY (some false) a b = some b := rfl
theorem amC : lows [] = some [] := rfl
theorem H5 (v : Value) (l : List AV) : lows (.c v :: l) = (lows l).map (v :: ·) := by
  simp only [lows, low1]
  cases lows l <;> rfl
theorem PW (l : List Value) : lows (l.map .c) = some l := by
  induction l with
  | nil => rfl
  | cons v l ih => rw [List.map_cons, H5, ih]; rfl
def ve (X : Prg) (t : TypeId) (a b : Option (List Value)) : Option Bool := match a, b with
  | some a, some b => nN (be X 8 t) (Dw (X.ty t)) a b
  | _, _ => none
theorem ajI (t : TypeId) (a b : List Value) : ve X t (some a) (some b) = nN (be X 8 t) (Dw (X.ty t)) a b := rfl
theorem agA (t : TypeId) (xs ys : List AV) : km X .eql t (.agg xs) (.agg ys) = (ve X t (lows xs) (lows ys)).map fun r => .c (.bool r) := by
  simp only [km, low]
  cases lows xs <;> cases lows ys <;> simp only [Option.map_some, Option.map_none, ve] <;> first | rfl | skip
  rw [asB, List.toList_toArray, List.toList_toArray]
  cases nN (be X 8 t) (Dw (X.ty t)) _ _ <;> rfl
theorem ae5 (t : TypeId) (xs ys : List AV) : km X .neq t (.agg xs) (.agg ys) = (ve X t (lows xs) (lows ys)).map fun r => .c (.bool (!r)) := by
  simp only [km, low]
  cases lows xs <;> cases lows ys <;> simp only [Option.map_some, Option.map_none, ve] <;> first | rfl | skip
  rw [as3, List.toList_toArray, List.toList_toArray]
  cases nN (be X 8 t) (Dw (X.ty t)) _ _ <;> rfl
def ahY (o : Option TypeDesc) (x : AV) (b : Bool) : Option AV := if eD o x = true then some (.c (.bool b)) else none
theorem atS (e : TypeId) (a : Addr) (b : Bool) : ahY (some (.pointer e)) (.ptr a) b = some (.c (.bool b)) := rfl
section
variable {t : TypeId}
theorem al7 {x : AV} {v : Value} : xW X t x (.c v) = false := by cases x <;> rfl
theorem aj4 {x : AV} {v : Value} (h1 : low x = none) (h2 : kK x (.c v) = true) (h3 : eD (X.und t) (.c v) = false) : km X .eql t x (.c v) = ahY (X.und t) x false ∧ km X .neq t x (.c v) = ahY (X.und t) x true := by
  simp only [km, h1, kW, h2, h3, Bool.or_false, Bool.true_and, ahY, al7]
  cases eD (X.und t) x <;> exact ⟨rfl, rfl⟩
theorem azE (o : Option TypeDesc) (v : Value) : eD o (.c v) = false := by
  cases o with
  | none => rfl
  | some q => cases q <;> rfl
def R9 (o : Option Ty) (a b : Addr) (r : Bool) : Option AV := match o with
  | some te => if te.size ≠ 0 ∧ a = b then some (.c (.bool r)) else none
  | none => none
def vW (X : Prg) (o : Option TypeDesc) (a b : Addr) (r : Bool) : Option AV := match o with
  | some (.pointer e) => R9 (X.ty e) a b r
  | _ => none
theorem asG (e : TypeId) (a b : Addr) (r : Bool) : vW X (some (.pointer e)) a b r = R9 (X.ty e) a b r := rfl
theorem alG (u : TypeDesc) (n b : Nat) (z : Value) (a : Addr) (r : Bool) : R9 (some ⟨u, n, b, z⟩) a a r = if n ≠ 0 then some (.c (.bool r)) else none := by
  unfold R9
  simp
theorem aw0 (a b : Addr) : km X .eql t (.ptr a) (.ptr b) = vW X (X.und t) a b true ∧ km X .neq t (.ptr a) (.ptr b) = vW X (X.und t) a b false := by
  have hk : kK (.ptr a) (.ptr b) = false := rfl
  have hs : xW X t (.ptr a) (.ptr b) = (vW X (X.und t) a b true).isSome := by
    unfold xW vW
    cases X.und t with
    | none => rfl
    | some q =>
      cases q <;> first | rfl | skip
      rename_i e
      simp only [R9]
      cases X.ty e with
      | none => rfl
      | some te =>
        simp only
        by_cases hc : te.size ≠ 0 ∧ a = b
        · rw [if_pos hc, decide_eq_true hc]; rfl
        · rw [if_neg hc, decide_eq_false hc]; rfl
  have h2 : ∀ r : Bool, vW X (X.und t) a b r = if (vW X (X.und t) a b true).isSome = true then some (.c (.bool r)) else none := by
    intro r
    unfold vW R9
    (repeat' split) <;> simp_all
  rw [h2 true, h2 false]
  simp only [km, low, kW, hk, Bool.false_and, Bool.false_eq_true, if_false, hs]
  cases (vW X (X.und t) a b true).isSome <;> exact ⟨rfl, rfl⟩
theorem alR (a b : Addr) : km X .neq t (.ptr a) (.ptr b) = vW X (X.und t) a b false := (aw0 a b).2
theorem as7 (a : Addr) : km X .eql t (.ptr a) (.c (.pointer none)) = ahY (X.und t) (.ptr a) false := (aj4 rfl rfl (azE _ _)).1
end
theorem avX (op : UnOp) (v : Value) : unA op (.c v) = (vl op v).map cv := rfl
section
variable {b c : Nat} {o : VO} {off n : Nat} {sp : Option Nat} {vs : List AV}
theorem ac (s : VS) (o : VO) : (s.push o).size = s.size + 1 := by have : (s.push o).size = s.size + 1 := rfl; omega
theorem ae (s : VS) (b : Nat) (o : VO) : (s.set b o).size = s.size := by have : (s.set b o).size = s.size := rfl; omega
theorem dN (h : b ≠ s.size) : (s.push o).get b = s.get b := by rw [VS.get_push, if_neg h]
theorem bB (h : b = s.size) : (s.push o).get b = some o := by rw [VS.get_push, if_pos h]
theorem bZ (h : b ≠ c) : (s.set c o).get b = s.get b := by unfold VS.get VS.set; simp only [if_neg h]
theorem ef (h : b = c) (hb : b < s.size) : (s.set c o).get b = some o := by unfold VS.get VS.set; simp only [if_pos hb, if_pos h]
theorem YT : (s.push o).ver b = s.ver b := rfl
theorem eZ (h : b ≠ c) : (s.set c o).ver b = s.ver b := by unfold VS.set; simp only [if_neg h]
def rdV (o : Option VO) (off : Nat) (sp : Option Nat) (n : Nat) : Option (List AV) := match o with
  | some (.own r) => if sp.getD 0 = r.ep ∧ off + n ≤ r.cs.length then some ((r.cs.drop off).take n) else none
  | _ => none
theorem UH : s.rd ⟨b, off, sp⟩ n = rdV (s.get b) off sp n := rfl
theorem Lb (cs : List AV) (e ep frz : Nat) (str : Bool) : rdV (some (.own ⟨cs, e, ep, frz, str⟩)) off sp n = if sp.getD 0 = ep ∧ off + n ≤ cs.length then some ((cs.drop off).take n) else none := rfl
def wrV (o : Option VO) (s : VS) (b off : Nat) (sp : Option Nat) (vs : List AV) : Option VS := match o with
  | some (.own r) => if sp.getD 0 = r.ep ∧ off + vs.length ≤ r.cs.length ∧ r.frz ≤ off ∧ r.str = false ∧ vs.all ie = true then some (s.set b (.own { r with cs := overA r.cs off vs })) else none
  | _ => none
theorem Jj : s.wr ⟨b, off, sp⟩ vs = wrV (s.get b) s b off sp vs := rfl
theorem JP (cs : List AV) (e ep frz : Nat) (str : Bool) : wrV (some (.own ⟨cs, e, ep, frz, str⟩)) s b off sp vs = if sp.getD 0 = ep ∧ off + vs.length ≤ cs.length ∧ frz ≤ off ∧ str = false ∧ vs.all ie = true then some (s.set b (.own ⟨overA cs off vs, e, ep, frz, str⟩)) else none := rfl
end
section
variable {t : TypeId} {a : Addr} {cs : List AV} {off : Nat}
def ldP (o : Option Ty) (a : Addr) (s : VS) : Option AV := match o with | some ty => (s.rd a ty.size).bind (nW ty) | none => none
theorem at2 : jP X t (.ptr a) s = ldP (X.ty t) a s := by
  unfold jP ldP
  cases X.ty t <;> rfl
theorem alS (u : TypeDesc) (n b : Nat) (z : Value) : ldP (some ⟨u, n, b, z⟩) a s = (s.rd a n).bind (nW ⟨u, n, b, z⟩) := rfl
def ldF (o : Option Ty) (cs : List AV) (off : Nat) : Option AV := match o with | some ty => if off + ty.size ≤ cs.length then nW ty ((cs.drop off).take ty.size) else none | none => none
theorem ajE : jP X t (.fptr cs off) s = ldF (X.ty t) cs off := by
  unfold jP ldF
  cases X.ty t <;> rfl
theorem alQ (u : TypeDesc) (n b : Nat) (z : Value) : ldF (some ⟨u, n, b, z⟩) cs off = if off + n ≤ cs.length then nW ⟨u, n, b, z⟩ ((cs.drop off).take n) else none := rfl
end
theorem Z6 {α β : Type} (f : α → β) (l : List α) (n : Nat) : (l.map f).take n = (l.take n).map f := List.map_take.symm
theorem TT {α β : Type} (f : α → β) (l : List α) (n : Nat) : (l.map f).drop n = (l.drop n).map f := List.map_drop.symm
theorem awW {α β : Type} (f : α → β) (l : List α) (n : Nat) : (l.map f)[n]? = (l[n]?).map f := List.getElem?_map
def eI (k : IntKind) (n : Int) : List AV := [.c (.int k n)]
@[reducible] def LI (l : List Int) : AV := .lst 1 (l.map (eI .i64))
def eS (p : Int × Int) : List AV := [.c (.int .i64 p.1), .c (.int .i64 p.2)]
@[reducible] def LS (l : List (Int × Int)) : AV := .lst 2 (l.map eS)
theorem akX (k : IntKind) (l : List Int) : (l.map (eI k)).flatten = l.map fun n => .c (.int k n) := by
  induction l with
  | nil => rfl
  | cons a l ih => rw [List.map_cons, List.flatten_cons, ih]; rfl
section
variable {t : TypeId} {lo hi mx : Option AV}
def aaR (X : Prg) (o : Option TypeDesc) (a : Addr) (len cap : Nat) (lo hi mx : Option AV) : Option AV := match o with
  | some (.slice e) => match X.ty e with
    | some te => match mx with
      | none => match dJ hi len (cap / 2) with
        | some h => match dJ lo 0 h with
          | some l => some (.sl (Addr.fwd a (l * te.size)) (h - l) (if cap % 2 = 1 then bJ (cap / 2 - l) else aY (cap / 2 - l)))
          | none => none
        | none => none
      | some (.c (.int _ m)) => if hi.isNone = true then none else if 0 ≤ m ∧ m ≤ ((cap / 2 : Nat) : Int) then match dJ hi 0 m.toNat with
          | some h => match dJ lo 0 h with
            | some l => some (.sl (Addr.fwd a (l * te.size)) (h - l) (bJ (m.toNat - l)))
            | none => none
          | none => none
        else none
      | some _ => none
    | none => none
  | _ => none
theorem awM (a : Addr) (len cap : Nat) : lF X t (.sl a len cap) lo hi mx = aaR X (X.und t) a len cap lo hi mx := by
  show H4 (aC X t (.slice (some a) len cap) (lo.map unc) (hi.map unc) (mx.map unc)) = _
  unfold aC aaR Prg.und
  cases X.ty t with
  | none => rfl
  | some ty =>
    simp only
    cases ty.und with
    | slice e =>
      simp only
      cases X.ty e with
      | none => rfl
      | some te =>
        simp only
        cases mx with
        | none =>
          simp only [Option.map_none]
          show H4 (match dJ hi len (cap / 2) with | some h => (match dJ lo 0 h with | some l => _ | none => none) | none => none) = _
          cases dJ hi len (cap / 2) with
          | none => rfl
          | some h =>
            simp only
            cases dJ lo 0 h <;> rfl
        | some m =>
          simp only [Option.map_some]
          cases m with
          | c v =>
            cases v with
            | int k i =>
              simp only [unc, Option.isNone_map]
              split
              · rfl
              · split
                · show H4 (match dJ hi 0 i.toNat with | some h => (match dJ lo 0 h with | some l => _ | none => none) | none => none) = _
                  cases dJ hi 0 i.toNat with
                  | none => rfl
                  | some h =>
                    simp only
                    cases dJ lo 0 h <;> rfl
                · rfl
            | _ => rfl
          | _ => rfl
    | _ => rfl
def Wi (X : Prg) (o : Option TypeDesc) (a : Addr) (lo hi mx : Option AV) : Option AV := match o with
  | some (.array n e) => if mx.isSome = true then none else match X.ty e with
    | some te => match dJ hi n n with
      | some h => match dJ lo 0 h with
        | some l => some (.sl (Addr.fwd a (l * te.size)) (h - l) (bJ (n - l)))
        | none => none
      | none => none
    | none => none
  | _ => none
theorem asV (a : Addr) : lF X t (.ptr a) lo hi mx = Wi X (X.und t) a lo hi mx := by
  show H4 (aC X t (.pointer (some a)) (lo.map unc) (hi.map unc) (mx.map unc)) = _
  unfold aC Wi Prg.und
  cases X.ty t with
  | none => rfl
  | some ty =>
    simp only
    cases ty.und with
    | array n e =>
      simp only [Option.isSome_map]
      split
      · rfl
      · cases X.ty e with
        | none => rfl
        | some te =>
          simp only
          rw [show bnd (hi.map unc) n n = dJ hi n n from rfl]
          cases dJ hi n n with
          | none => rfl
          | some h =>
            simp only
            rw [show bnd (lo.map unc) 0 h = dJ lo 0 h from rfl]
            cases dJ lo 0 h <;> rfl
    | _ => rfl
def af1 (o : Option TypeDesc) (b : ByteArray) (lo hi mx : Option AV) : Option AV := match o with
  | some .string => if mx.isSome = true then none else match dJ hi b.size b.size with
    | some h => match dJ lo 0 h with
      | some l => some (.c (.string (b.extract l h)))
      | none => none
    | none => none
  | _ => none
theorem as4 (b : ByteArray) : lF X t (.c (.string b)) lo hi mx = af1 (X.und t) b lo hi mx := by
  show (aC X t (.string b) (lo.map unc) (hi.map unc) (mx.map unc)).map cv = _
  unfold aC af1 Prg.und
  cases X.ty t with
  | none => rfl
  | some ty =>
    simp only
    cases ty.und with
    | string =>
      simp only [Option.isSome_map]
      split
      · rfl
      · show (match dJ hi b.size b.size with | some h => (match dJ lo 0 h with | some l => _ | none => none) | none => none : Option Value).map cv = _
        cases dJ hi b.size b.size with
        | none => rfl
        | some h =>
          simp only
          cases dJ lo 0 h <;> rfl
    | _ => rfl
theorem amK (a b : Nat) : dJ none a b = some a := rfl
theorem al6 (k : IntKind) (i : Int) (a b : Nat) : dJ (some (.c (.int k i))) a b = if 0 ≤ i ∧ i ≤ (b : Int) then some i.toNat else none := rfl
theorem dK (n : Nat) : aY n / 2 = n := by unfold aY; omega
theorem bA (n : Nat) : bJ n / 2 = n := by unfold bJ; omega
theorem lb (n : Nat) : aY n % 2 = 0 := by unfold aY; omega
theorem uR (n : Nat) : bJ n % 2 = 1 := by unfold bJ; omega
end
theorem atJ {a b : Int} (h : a ≤ b) {α : Type} {x y : α} : ite (a ≤ b) x y = x := if_pos h
theorem atX {a b : Int} (h : a < b) {α : Type} {x y : α} : ite (a < b) x y = x := if_pos h
theorem auL {x y : Int} (h1 : 0 ≤ x) (h2 : 0 ≤ y) : (x + y).toNat = x.toNat + y.toNat := by omega
theorem atV {x y : Int} (h : 0 ≤ y) : (x - y).toNat = x.toNat - y.toNat := by omega
theorem au0 {x y : Int} (h1 : 0 ≤ x) (h2 : 0 ≤ y) : (x * y).toNat = x.toNat * y.toNat := Int.toNat_mul h1 h2
theorem auN {x y : Int} (h1 : 0 ≤ x) (h2 : 0 ≤ y) : (x % y).toNat = x.toNat % y.toNat := by
  obtain ⟨a, rfl⟩ := Int.eq_ofNat_of_zero_le h1
  obtain ⟨b, rfl⟩ := Int.eq_ofNat_of_zero_le h2
  rw [← Int.natCast_emod]; rfl
def bsP (X : Prg) (t n : Nat) (ρ : au) (ps : Array (Nat × Operand)) (s : VS) : Option (AV × VS) := gI X t n (hF (evA X ρ) ps) s
theorem aw7 {k : AV → VS → Prop} {t n : Nat} {ps : Array (Nat × Operand)} : opA X (.buildSlice t n ps) ρ s k = fC (bsP X t n ρ ps s) k := vJ
theorem ayQ {t : Nat} {ps : Array (Nat × Operand)} : bsP X t 1 ρ ps s = gI X t 1 (hF (evA X ρ) ps) s := rfl
theorem S6 {cs vs : List AV} {off : Nat} (h : off + vs.length ≤ cs.length) (i : Nat) : (overA cs off vs)[i]? = if i < off then cs[i]? else if i < off + vs.length then vs[i - off]? else cs[i]? := by
  have hl : (cs.take off).length = off := by rw [List.length_take]; omega
  unfold overA
  rw [List.append_assoc]
  by_cases h1 : i < off
  · rw [if_pos h1, List.getElem?_append_left (by omega), List.getElem?_take, if_pos h1]
  · rw [if_neg h1, List.getElem?_append_right (by omega), hl]
    by_cases h2 : i < off + vs.length
    · rw [if_pos h2, List.getElem?_append_left (by omega)]
    · rw [if_neg h2, List.getElem?_append_right (by omega), List.getElem?_drop]
      congr 1
      omega
theorem Sh {cs vs : List AV} {off : Nat} (h : off + vs.length ≤ cs.length) : (overA cs off vs).length = cs.length := by
  unfold overA
  simp only [List.length_append, List.length_take, List.length_drop]
  omega
theorem vg (k : IntKind) (ev : Operand → AV) (hev : ∀ v, ev (.const v) = cv v) : ∀ (ps : List (Nat × Operand)) (j : Nat) (l : List Int) (cs : List AV), pC k ps j = some l → j + l.length = cs.length →
    jM (fun i => some (i * 1, 1)) cs (ps.map fun p => (p.1, ev p.2)) = some (cs.take j ++ l.map fun n => .c (.int k n))
  | [], j, l, cs, h, hl => by
    simp only [pC, Option.some.injEq] at h; subst h
    simp only [List.length_nil] at hl
    rw [List.map_nil, jM, List.take_of_length_le (by omega)]; simp
  | (i, x) :: r, j, l, cs, h, hl => by
    simp only [pC] at h
    split at h
    · rename_i q hq
      obtain ⟨k', v⟩ := q
      obtain rfl := Hx hq
      split at h
      · rename_i hc
        simp only at hc
        obtain ⟨rfl, rfl⟩ := hc
        rw [Option.map_eq_some_iff] at h
        obtain ⟨l', h1, rfl⟩ := h
        simp only [List.length_cons] at hl
        rw [List.map_cons]
        simp only [jM, hev, XD, gU]
        rw [if_pos (by simp; omega), vg k' ev hev r _ l' _ h1 (by rw [Sh (by simp; omega)]; omega)]
        congr 1
        have e4 : cs.take i ++ List.map (fun n => AV.c (Value.int k' n)) (v :: l') = (cs.take i ++ [.c (.int k' v)]) ++ List.map (fun n => AV.c (Value.int k' n)) l' := by simp
        rw [e4]
        congr 1
        have hlt : i < cs.length := by omega
        apply List.ext_getElem?
        intro n
        rw [List.getElem?_take, S6 (by simp; omega)]
        simp only [Nat.mul_one, List.length_singleton]
        rcases Nat.lt_trichotomy n i with h2 | h2 | h2
        · rw [if_pos (by omega), if_pos h2, List.getElem?_append_left (by simp; omega), List.getElem?_take, if_pos h2]
        · subst h2
          rw [if_pos (by omega), if_neg (by omega), if_pos (by omega), List.getElem?_append_right (by simp; omega)]
          simp [Nat.min_eq_left (Nat.le_of_lt hlt)]
        · rw [if_neg (by omega), List.getElem?_append_right (by simp; omega)]
          rw [List.getElem?_eq_none (by simp; omega)]
      · cases h
    · cases h
theorem gR {t e n b : Nat} {k : IntKind} {z : Int} {ps : Array (Nat × Operand)} {l : List Int} (hu : X.und t = some (.slice e)) (hte : X.ty e = some ⟨.int k, 1, b, .int k z⟩) (hl : pC k ps.toList 0 = some l) (hn : l.length = n) (hs : Nat.ble n 65536 = true) :
    bsP X t n ρ ps s = some (.sl ⟨s.size, 0, none⟩ n (bJ n), s.push (.own ⟨l.map fun x => .c (.int k x), e, 0, 0, false⟩)) := by
  have := Nat.le_of_ble_eq_true hs
  unfold bsP gI
  simp only [hu, hte]
  rw [if_pos (by omega)]
  have hz : ((bP (Value.int k z).cells.toList n).map cv).length = n := by
    rw [List.length_map, uf]; simp [Value.cells]
  have := vg k (evA X ρ) (fun v => rfl) ps.toList 0 l ((bP (Value.int k z).cells.toList n).map cv) hl (by rw [hz, hn]; omega)
  unfold hF
  rw [this]
  simp
attribute [irreducible] bsP
theorem axN (a : Nat) : (a < a + 1) = True := eq_true (by omega)
theorem azT (a : Nat) : (a < a + 1 + 1) = True := eq_true (by omega)
def ax (k : Nat → List Value → Option Value) (f : Nat) : Prop := ∀ v l, k f (v :: l) = none
theorem ax.at {k : Nat → List Value → Option Value} {f n : Nat} (h : ax k f) : ∀ a : List Value, a.length = n + 1 → k f a = none := fun a ha => by
  cases a with
  | nil => cases ha
  | cons v l => exact h v l
theorem ax.none {k : Nat → List Value → Option Value} {f : Nat} (h : k f [] = none) : ∀ a : List Value, a.length = 0 → k f a = none := fun a ha => by
  cases a with
  | nil => exact h
  | cons v l => cases ha
def cL : Code → Code
  | .seq a _ | .cond _ a _ | .block _ a | .loop a | .scope a => a
  | c => c
def cR : Code → Code
  | .seq _ b | .cond _ _ b => b
  | c => c
end Go.Proofs.YticllcglldbffaaDoor.Ab
end
section
namespace Go.Proofs.YticllcglldbffaaDoor.Ab
variable {X : Prg} {vs vs' : VS}
theorem af.size_le {a b : VS} (h : af a b) : a.size ≤ b.size := h.1
theorem all_cons {α : Type} {p : α → Prop} {v : α} {l : List α} (h : p v) (k : ∀ u ∈ l, p u) : ∀ u ∈ v :: l, p u := fun u hu => by
  rcases List.mem_cons.1 hu with rfl | hu
  · exact h
  · exact k u hu
theorem all_nil {α : Type} {p : α → Prop} : ∀ u ∈ ([] : List α), p u := fun u hu => by cases hu
theorem eG {α β : Type} {p : β → Prop} {f : α → β} {l : List α} (h : ∀ x, p (f x)) : ∀ u ∈ l.map f, p u := fun u hu => by
  obtain ⟨x, _, rfl⟩ := List.mem_map.1 hu
  exact h x
def aN (l : List AV) : Prop := ∀ v ∈ l, az v
theorem aN.cons {v : AV} {l : List AV} (h : az v) (k : aN l) : aN (v :: l) := all_cons h k
theorem aN.nil : aN [] := all_nil
theorem aN.append {l m : List AV} (h : aN l) (k : aN m) : aN (l ++ m) := fun v hv => by
  rcases List.mem_append.1 hv with hv | hv
  · exact h v hv
  · exact k v hv
theorem aN.take {l : List AV} (h : aN l) (n : Nat) : aN (l.take n) := fun v hv => h v (List.mem_of_mem_take hv)
theorem aN.drop {l : List AV} (h : aN l) (n : Nat) : aN (l.drop n) := fun v hv => h v (List.mem_of_mem_drop hv)
theorem aN.map {α : Type} {f : α → AV} {l : List α} (h : ∀ x, az (f x)) : aN (l.map f) := eG h
theorem aN.flat {xs : List (List AV)} (h : ∀ x ∈ xs, aN x) : aN xs.flatten := fun v hv => by
  obtain ⟨l, hl, hv⟩ := List.mem_flatten.1 hv
  exact h l hl v hv
theorem az.lstm {α : Type} {sz : Nat} {f : α → List AV} {l : List α} (h : ∀ x, aN (f x)) : az (.lst sz (l.map f)) := az.lst (eG h)
theorem He (k : IntKind) (n : Int) : aN (eI k n) := aN.cons (az.c _) aN.nil
theorem alM (p : Int × Int) : aN (eS p) := aN.cons (az.c _) (aN.cons (az.c _) aN.nil)
theorem az.LI (l : List Int) : az (LI l) := az.lstm (He _)
theorem az.LS (l : List (Int × Int)) : az (LS l) := az.lstm alM
theorem bH {r v : AV} (hk : af vs vs') (h : v = r) (hf : az r) : qW X vs r v vs' := by subst h; exact ⟨hk, Se.firm hf⟩
theorem aK {a b : Bool} (hk : af vs vs') (h : a = b) : qW X vs (.c (.bool b)) (.c (.bool a)) vs' := by subst h; exact ⟨hk, Se.c _⟩
theorem aD {k : IntKind} {a b : Int} (hk : af vs vs') (h : a = b) : qW X vs (.c (.int k b)) (.c (.int k a)) vs' := by subst h; exact ⟨hk, Se.c _⟩
theorem Se.ci {P N : Nat → Prop} {k : IntKind} {a b : Int} (h : a = b) : Se X P N vs (.c (.int k a)) (.c (.int k b)) := by subst h; exact Se.c _
theorem Se.cb {P N : Nat → Prop} {a b : Bool} (h : a = b) : Se X P N vs (.c (.bool a)) (.c (.bool b)) := by subst h; exact Se.c _
theorem at3 (k : IntKind) (l : List Int) : ∀ x ∈ l.map (eI k), x.length = 1 := eG fun _ => rfl
end Go.Proofs.YticllcglldbffaaDoor.Ab
end
section
namespace Go.Proofs.YticllcglldbffaaDoor.Ab
variable {X : Prg} {s0 s : VS}
inductive Gr (s0 s : VS) (e sz : Nat) : AV → Nat → List AV → Prop
  | nil : Gr s0 s e sz (.c (.slice none 0 0)) 0 []
  | emp : Gr s0 s e sz .emp 0 []
  | row (b : Nat) (sp : Option Nat) (n : Nat) (cs : List AV) : s.get b = some (.own ⟨cs, e, sp.getD 0, 0, false⟩) → s0.size ≤ b → cs.length = n * sz → Gr s0 s e sz (.sl ⟨b, 0, sp⟩ n (aY n)) n cs
  | lit (b : Nat) (n : Nat) (cs : List AV) (e' : Nat) : s.get b = some (.own ⟨cs, e', 0, 0, false⟩) → s0.size ≤ b → cs.length = n * sz → Gr s0 s e sz (.sl ⟨b, 0, none⟩ n (bJ n)) n cs
variable {e sz n : Nat} {v : AV} {cs : List AV}
theorem Gr.len (h : Gr s0 s e sz v n cs) : cs.length = n * sz := by cases h <;> simp_all
theorem Gr.push (h : Gr s0 s e sz v n cs) (o : VO) : Gr s0 (s.push o) e sz v n cs := by
  cases h with
  | nil => exact .nil
  | emp => exact .emp
  | row b sp n cs h1 h2 h3 =>
    have := VS.lt_of_get h1
    exact .row b sp n cs (by rw [dN (by omega)]; exact h1) h2 h3
  | lit b n cs e' h1 h2 h3 =>
    have := VS.lt_of_get h1
    exact .lit b n cs e' (by rw [dN (by omega)]; exact h1) h2 h3
theorem Gr.lenA (h : Gr s0 s e sz v n cs) {t e1 b c : Nat} {z : Value} (ht : X.ty t = some ⟨.slice e1, b, c, z⟩) (s2 : VS) : lenA X t v s2 = some (n : Int) := by
  cases h <;> simp only [Ab.lenA, ht] <;> rfl
def But (s s' : VS) (v : AV) : Prop := s.size ≤ s'.size ∧ ∀ b, b < s.size → bR v ≠ some b → s'.get b = s.get b ∧ s'.ver b = s.ver b
theorem But.keep {s' : VS} (h : But s s' v) (k : af s0 s) (hg : Gr s0 s e sz v n cs) : af s0 s' := by
  refine ⟨Nat.le_trans k.1 h.1, fun b hb => ?_⟩
  have hb2 := Nat.lt_of_lt_of_le hb k.1
  have h1 := h.2 b hb2 (by
    intro he
    cases hg <;> simp [bR] at he
    · omega
    · omega)
  have h2 := k.2 b hb
  exact ⟨h1.1.trans h2.1, h1.2.trans h2.2⟩
theorem Gr.append {te : Ty} {m : Nat} {ws : List AV} (h : Gr s0 s e sz v n cs) (hk : s0.size ≤ s.size) (hz : te.size = sz) (hw : ws.length = m * sz) (ho : ws.all ie = true) (hr : aO (n + m) te.bytes = true) :
    ∃ v' s', aH te e m ws v s = some (v', s') ∧ Gr s0 s' e sz v' (n + m) (cs ++ ws) ∧ But s s' v := by
  by_cases hm : m = 0
  · subst hm
    have hw0 : ws = [] := List.eq_nil_of_length_eq_zero (by omega)
    subst hw0
    refine ⟨v, s, ?_, by rw [List.append_nil]; exact h, Nat.le_refl _, fun _ _ _ => ⟨rfl, rfl⟩⟩
    cases h <;> simp [aH]
  · have hpush : ∀ (r : Jg), But s (s.push (.own r)) v := fun r => ⟨by rw [ac]; omega, fun b hb _ => ⟨dN (by omega), rfl⟩⟩
    cases h with
    | nil =>
      rw [Nat.zero_add] at hr ⊢
      exact ⟨_, _, by simp only [aH, if_neg hm]; rw [if_pos hr]; rfl, .row s.size none m ([] ++ ws) (bB rfl) hk (by simpa using hw), hpush _⟩
    | emp =>
      rw [Nat.zero_add] at hr ⊢
      exact ⟨_, _, by simp only [aH, if_neg hm]; rw [if_pos hr]; rfl, .row s.size none m ([] ++ ws) (bB rfl) hk (by simpa using hw), hpush _⟩
    | row b sp n cs h1 h2 h3 =>
      have hb := VS.lt_of_get h1
      have hc : aO (n + m) te.bytes = true ∧ ep (⟨b, 0, sp⟩ : Addr) = sp.getD 0 ∧ (⟨b, 0, sp⟩ : Addr).off = 0 ∧ cs.length = n * te.size ∧ e = e ∧ ws.all ie = true ∧ 0 ≤ n * te.size ∧ false = false := ⟨hr, rfl, rfl, by rw [hz]; exact h3, rfl, ho, Nat.zero_le _, rfl⟩
      refine ⟨.sl ⟨b, 0, some (sp.getD 0 + 1)⟩ (n + m) (aY (n + m)), s.set b (.own ⟨cs ++ ws, e, sp.getD 0 + 1, 0, false⟩), ?_, ?_, ?_⟩
      · simp only [aH, if_neg hm, dK, lb]
        rw [if_neg (by omega), if_neg (by omega)]
        simp only [h1]
        exact if_pos (by simpa using hc)
      · exact .row b (some (sp.getD 0 + 1)) (n + m) _ (ef rfl hb) h2 (by rw [List.length_append, h3, hw, Nat.add_mul])
      · refine ⟨by rw [ae]; exact Nat.le_refl _, fun c hc' hne => ?_⟩
        have : c ≠ b := by rintro rfl; exact hne rfl
        exact ⟨bZ this, eZ this⟩
    | lit b n cs e' h1 h2 h3 =>
      refine ⟨_, _, ?_, .row s.size none (n + m) (cs ++ ws) (bB rfl) hk (by rw [List.length_append, h3, hw, Nat.add_mul]), hpush _⟩
      have hrd : s.rd ⟨b, 0, none⟩ (n * te.size) = some cs := by
        rw [UH, h1, Lb, hz, if_pos ⟨rfl, by omega⟩, List.drop_zero, ← h3, List.take_length]
      simp only [aH, if_neg hm, bA, uR, hrd, Option.map_some]
      rw [if_neg (by omega), if_pos (by decide), if_pos hr]
      rfl
theorem Gr.step {te : Ty} {m : Nat} {ws : List AV} {k : AV → VS → Prop} (h : Gr s0 s e sz v n cs) (hk : af s0 s) (hz : te.size = sz) (hw : ws.length = m * sz) (ho : ws.all ie = true) (hr : aO (n + m) te.bytes = true)
    (hK : ∀ v' s', Gr s0 s' e sz v' (n + m) (cs ++ ws) → But s s' v → af s0 s' → k v' s') : fC (aH te e m ws v s) k := by
  obtain ⟨v', s', h1, h2, h3⟩ := h.append hk.1 hz hw ho hr
  rw [h1, nV]
  exact hK v' s' h2 h3 (h3.keep hk h)
theorem xy {dn zs x : List AV} {off : Nat} (h : dn.length = off) : overA (dn ++ zs) off x = dn ++ x ++ zs.drop x.length := by
  unfold overA
  rw [List.take_left' h, ← h, List.drop_append]
  simp
theorem But.get {s' : VS} {b : Nat} {o : VO} (h : But s s' v) (hg : s.get b = some o) (hne : bR v ≠ some b) : s'.get b = some o := by
  rw [(h.2 b (VS.lt_of_get hg) hne).1]; exact hg
theorem Gr.se {P N : Nat → Prop} (h : Gr s0 s e sz v n cs) (hp : ∀ b, s0.size ≤ b → P b) {xs : List (List AV)} (hx : cs = xs.flatten) (hz : ∀ x ∈ xs, x.length = sz) (hn : n = xs.length) (hf : aN cs) : Se X P N s v (.lst sz xs) := by
  cases h with
  | nil => have : xs = [] := List.eq_nil_of_length_eq_zero hn.symm
           subst this; exact Se.nil sz
  | emp => have : xs = [] := List.eq_nil_of_length_eq_zero hn.symm
           subst this; exact Se.emp sz
  | row b sp n cs h1 h2 h3 =>
    refine Se.sl h1 (hp _ h2) rfl ?_ (by rw [dK]; omega) hn.symm hz ?_
    · show 0 + n * sz ≤ cs.length; omega
    · show Ses X P N s ((cs.drop 0).take (n * sz)) xs.flatten
      rw [List.drop_zero, ← h3, List.take_length, hx]
      exact Ses.firm (hx ▸ hf)
  | lit b n cs e' h1 h2 h3 =>
    refine Se.sl h1 (hp _ h2) rfl ?_ (by rw [bA]; omega) hn.symm hz ?_
    · show 0 + n * sz ≤ cs.length; omega
    · show Ses X P N s ((cs.drop 0).take (n * sz)) xs.flatten
      rw [List.drop_zero, ← h3, List.take_length, hx]
      exact Ses.firm (hx ▸ hf)
theorem Gr.out (h : Gr s0 s e sz v n cs) (hk : af s0 s) {xs : List (List AV)} (hx : cs = xs.flatten) (hz : ∀ x ∈ xs, x.length = sz) (hf : aN cs) (hs : 0 < sz) : qW X s0 (.lst sz xs) v s := by
  refine ⟨hk, h.se (fun b hb => hb) hx hz ?_ hf⟩
  have h1 := h.len
  rw [hx, ik hz] at h1
  exact (Nat.eq_of_mul_eq_mul_right hs h1).symm
theorem Gr.outm {α : Type} {f : α → List AV} {l : List α} (h : Gr s0 s e sz v n (l.map f).flatten) (hk : af s0 s) (hz : ∀ x, (f x).length = sz) (hf : ∀ x, aN (f x)) (hs : 0 < sz) : qW X s0 (.lst sz (l.map f)) v s :=
  h.out hk rfl (eG hz) (aN.flat (eG hf)) hs
theorem vb {α : Type} {f : α → List AV} {l : List α} (h : ∀ x, (f x).all ie = true) : (l.map f).flatten.all ie = true := by
  rw [List.all_flatten]
  simp [h]
theorem cp {n b : Nat} (h : n * b ≤ 70368744177664 ∧ n ≤ 70368744177664) : aO n b = true := by unfold aO; simp; exact h
theorem af.get {a b : VS} (h : af a b) {c : Nat} {o : VO} (hc : a.get c = some o) : b.get c = some o := by rw [(h.2 c (VS.lt_of_get hc)).1]; exact hc
theorem eu {b c : Nat} (h : c ≠ b) : (s.drop (· = b)).get c = s.get c := by rw [VS.get_drop]; exact if_neg h
theorem ab {P : Nat → Prop} : (s.drop P).size = s.size := by have : (s.drop P).size = s.size := rfl; omega
theorem af.drop {a : VS} (h : af a s) {b : Nat} (hb : a.size ≤ b) : af a (s.drop (· = b)) := ⟨by rw [ab]; exact h.1, fun c hc => by rw [eu (by omega)]; exact h.2 c hc⟩
end Go.Proofs.YticllcglldbffaaDoor.Ab
end
section
namespace Go.Proofs.YticllcglldbffaaDoor.Ab
open Go.RowKit Go.Deep Go.WideShapes
def TD.av : (d : TD) → d.T → List AV
  | .int k, n => [.c (.int k n)]
  | .bool, b => [.c (.bool b)]
  | .str, b => [.c (.string b)]
  | .slice e, l => [.lst e.size (List.map (TD.av e) (l : List e.T))]
  | .one a, x => TD.av a x
  | .more a r, p => TD.av a p.1 ++ TD.av r p.2
def TD.wf : (d : TD) → d.T → Prop
  | .int k, n => (Lit.int k n).wf = true
  | .bool, _ => True
  | .str, b => b.size ≤ maxLen
  | .slice e, l => ∀ x ∈ (l : List e.T), TD.wf e x
  | .one a, x => TD.wf a x
  | .more a r, p => TD.wf a p.1 ∧ TD.wf r p.2
theorem TD.av_len : ∀ (d : TD) (x : d.T), (TD.av d x).length = d.size
  | .int _, _ => rfl
  | .bool, _ => rfl
  | .str, _ => rfl
  | .slice _, _ => rfl
  | .one a, x => TD.av_len a x
  | .more a r, p => by
    show (TD.av a p.1 ++ TD.av r p.2).length = a.size + r.size
    rw [List.length_append, TD.av_len a, TD.av_len r]
theorem TD.Enc.wf {s : St} : ∀ (d : TD) (x : d.T) (cs : List Value), d.Enc s x cs → d.wf x
  | .int _, _, _, h => h.2
  | .bool, _, _, h => trivial
  | .str, _, _, h => h.2
  | .slice e, l, cs, h => by
    rcases h with ⟨_, rfl⟩ | ⟨a, cap, cells, _, _, h3⟩
    · intro x hx; cases hx
    · intro x hx
      obtain ⟨i, hi⟩ := List.getElem?_of_mem hx
      exact TD.Enc.wf e x _ (h3 i x hi)
  | .one a, x, cs, h => TD.Enc.wf a x cs h
  | .more a r, p, cs, ⟨c1, c2, h, h1, h2⟩ => ⟨TD.Enc.wf a _ _ h1, TD.Enc.wf r _ _ h2⟩
def Di (s : St) : Wd := ⟨fun _ => none, fun b => match s.get b with | some (.ro cs) => some (.ro cs) | _ => none⟩
theorem XU {s : St} {b : Nat} {cs : List Value} (h : s.get b = some (.ro cs)) : (Di s).M b = some (.ro cs) := by
  unfold Di
  simp only [h]
theorem agV {s : St} {k : Nat} {o : bp} (h : (Di s).M k = some o) : s.get k = some o := by
  unfold Di at h
  simp only at h
  split at h
  · rename_i cs hcs; cases h; exact hcs
  · cases h
theorem HG {X : Prg} {s : St} (h : ea X s) (hp : X.laid.all (fun p => p.2.all bD) = true) : Rel X (Di s) eE s where
  live b o hb := by
    have := VS.lt_of_get hb
    exact absurd this (Nat.not_lt_zero _)
  inj _ _ _ hb := by cases hb
  lt _ _ hb := by cases hb
  sep _ _ _ _ hb := by cases hb
  frz _ _ hk := agV hk
  glob p hpm := ⟨XU (h p hpm), List.all_eq_true.1 hp p hpm⟩
  has _ _ hb := by cases hb
theorem akW {e : TD} {s : St} {dd : Wd} {l : List e.T} {cells : List Value} (hl : cells.length = l.length * e.size) (h : ∀ i x, l[i]? = some x → VRs dd (TD.av e x) ((cells.drop (i * e.size)).take e.size)) : VRs dd ((l.map (TD.av e)).flatten) cells := by
  induction l generalizing cells with
  | nil =>
    simp only [List.length_nil, Nat.zero_mul] at hl
    rw [List.length_eq_zero_iff.1 hl]
    exact .nil
  | cons x l ih =>
    have h0 := h 0 x rfl
    rw [Nat.zero_mul, List.drop_zero] at h0
    have h1 : VRs dd ((l.map (TD.av e)).flatten) (cells.drop e.size) := by
      refine ih ?_ ?_
      · rw [List.length_drop, hl, List.length_cons, Nat.succ_mul]; omega
      · intro i y hy
        have := h (i + 1) y (by simpa using hy)
        rw [List.drop_drop]
        rw [Nat.succ_mul] at this
        rwa [Nat.add_comm e.size]
    rw [List.map_cons, List.flatten_cons]
    have := h0.append h1
    rwa [List.take_append_drop] at this
theorem TD.Enc.vr {s : St} : ∀ (d : TD) (x : d.T) (cs : List Value), d.Enc s x cs → VRs (Di s) (TD.av d x) cs
  | .int _, _, _, h => by rw [h.1]; exact .cons _ _ _ _ (.c _ rfl) .nil
  | .bool, _, _, h => by rw [show _ = _ from h]; exact .cons _ _ _ _ (.c _ rfl) .nil
  | .str, _, _, h => by rw [h.1]; exact .cons _ _ _ _ (.c _ rfl) .nil
  | .slice e, l, cs, h => by
    rcases h with ⟨rfl, rfl⟩ | ⟨a, cap, cells, rfl, ⟨⟨⟨all, hg⟩, hr⟩, hc⟩, h3⟩
    · exact .cons _ _ _ _ (.lnil _) .nil
    · have hlen := avO hr
      refine .cons _ _ _ _ (.lst e.size _ a _ cap (.ro all) _ cells (XU hg) (by rw [List.length_map]) ?_ ?_ hc rfl (akW (s := s) hlen fun i x hx => TD.Enc.vr e x _ (h3 i x hx))) .nil
      · unfold St.rd at hr
        rw [hg] at hr
        exact hr
      · intro y hy
        obtain ⟨x, _, rfl⟩ := List.mem_map.1 hy
        exact TD.av_len e x
  | .one a, x, cs, h => TD.Enc.vr a x cs h
  | .more a r, p, cs, ⟨c1, c2, h, h1, h2⟩ => by
    rw [h]
    exact (TD.Enc.vr a _ _ h1).append (TD.Enc.vr r _ _ h2)
theorem TD.Enc.keep_ {s s' : St} {d : TD} {x : d.T} {cs : List Value} (h : d.Enc s x cs) (e : Ext s s') : d.Enc s' x cs := TD.Enc.keep e.keep d x cs h
theorem oh {X : Prg} {f : Nat} {args : List AV} {args' : List Value} {s : St} (h : ea X s) (hp : X.laid.all (fun p => p.2.all bD) = true) (ha : VRs (Di s) args args') (hc : VC X f args eE fun r _ => r = .c (.bool true)) : WC X f args' s fun r _ => r = .bool true := by
  refine jE (hc (Di s) s args' (HG h hp) ha) ?_
  rintro r s' ⟨v, vs', d', rfl, hv, _, _⟩
  cases hv
  rfl
end Go.Proofs.YticllcglldbffaaDoor.Ab
end
section
namespace Go.Proofs.YticllcglldbffaaDoor.Ab
section
variable {α : Type} {f : α → List AV} {sz : Nat}
theorem pj (hz : ∀ x, (f x).length = sz) (l : List α) : (l.map f).flatten.length = l.length * sz := by
  rw [ik (eG hz), List.length_map]
end
theorem Se.int {X : Prg} {P N : Nat → Prop} {vs : VS} {k : IntKind} {a b : Int} (h : a = b) : Se X P N vs (.c (.int k a)) (.c (.int k b)) := Se.ci h
theorem Se.box {X : Prg} {N : Nat → Prop} {vs : VS} {b e n : Nat} {v w : AV} (hg : vs.get b = some (.own ⟨[v], e, 0, 0, false⟩)) (hb : n ≤ b) (h : Se X (n ≤ ·) N vs v w) : Se X (n ≤ ·) N vs (.ptr ⟨b, 0, none⟩) (.fptr [w] 0) :=
  Se.ptr (r := ⟨[v], e, 0, 0, false⟩) hg hb rfl rfl (Ses.cons h Ses.nil)
end Go.Proofs.YticllcglldbffaaDoor.Ab
end
section
namespace Go.Proofs.YticllcglldbffaaDoor.Ab
theorem ZE {x : Int} : IntKind.u64.wrap x = x % 18446744073709551616 := by simp [IntKind.wrap, IntKind.bits, IntKind.signed]
theorem J7 {x n : Int} (h1 : 0 ≤ x) (h2 : x < n) : x % n = x := Int.emod_eq_of_lt h1 h2
theorem YC {x n : Int} (h : 0 ≤ x) : x.tdiv n = x / n := Int.tdiv_eq_ediv_of_nonneg h
theorem T5 {x n : Int} (h : 0 ≤ x) : x.tmod n = x % n := Int.tmod_eq_emod_of_nonneg h
section
variable (X : Prg) (t : TypeId) (k k' : IntKind) (a b : Int)
theorem akU : aF X .and t (.int k a) (.int k b) = (bS .and k a b).map (.int k) := by simp [aF, gq]
end
@[reducible] def tx (l : List UInt8) : AV := .c (.string ⟨l.toArray⟩)
theorem aw9 (l : List UInt8) : ByteArray.size ⟨l.toArray⟩ = l.length := by simp [ByteArray.size]
theorem abN (l : List UInt8) (i j : Nat) : ByteArray.extract ⟨l.toArray⟩ i j = ⟨((l.take j).drop i).toArray⟩ := by
  apply ByteArray.ext
  rw [ByteArray.data_extract]
  simp only [List.extract_toArray, List.extract_eq_take_drop]
  rw [List.drop_take]
theorem Xj {X : Prg} {t : TypeId} (a b : List UInt8) : aF X .add t (.string ⟨a.toArray⟩) (.string ⟨b.toArray⟩) = if a.length + b.length ≤ 140737488355328 then some (.string ⟨(a ++ b).toArray⟩) else none := by
  simp [aF, HV, ByteArray.size]
def cB (c : UInt8) : AV := .c (.int .u8 c.toNat)
theorem Id (l : List UInt8) : em (l.map fun c => Value.int .u8 (c.toNat : Int)) = some l := by
  induction l with
  | nil => rfl
  | cons a l ih => simp [em, ih]
theorem qt (l : List UInt8) : (bg l).map AV.c = l.map cB := by simp [bg, cB, Function.comp_def]
theorem VY (l : List UInt8) : lows (l.map cB) = some (l.map fun c => Value.int .u8 (c.toNat : Int)) := by
  have : l.map cB = (l.map fun c => Value.int .u8 (c.toNat : Int)).map .c := by simp [cB, Function.comp_def]
  rw [this, PW]
theorem ba {X : Prg} {vs vs' : VS} {a b : List UInt8} (hk : af vs vs') (h : a = b) : qW X vs (tx b) (tx a) vs' := by subst h; exact ⟨hk, Se.c _⟩
end Go.Proofs.YticllcglldbffaaDoor.Ab
end
section
namespace Go.Proofs.YticllcglldbffaaDoor.Ab
variable {X : Prg} {s0 s : VS}
inductive Gw (s0 s : VS) (e sz : Nat) : AV → Nat → List AV → Prop
  | nil : Gw s0 s e sz (.c (.slice none 0 0)) 0 []
  | emp : Gw s0 s e sz .emp 0 []
  | row (b : Nat) (sp : Option Nat) (n : Nat) (cs : List AV) : s.get b = some (.own ⟨cs, e, sp.getD 0, 0, false⟩) → s0.size ≤ b → cs.length = n * sz → Gw s0 s e sz (.sl ⟨b, 0, sp⟩ n (aY n)) n cs
  | room (b n N : Nat) (cs zs : List AV) (e' : Nat) : s.get b = some (.own ⟨cs ++ zs, e', 0, 0, false⟩) → s0.size ≤ b → cs.length = n * sz → (cs ++ zs).length = N * sz → n ≤ N → Gw s0 s e sz (.sl ⟨b, 0, none⟩ n (bJ N)) n cs
variable {e sz n : Nat} {v : AV} {cs : List AV}
theorem Gw.cast {n' : Nat} {cs' : List AV} (h : Gw s0 s e sz v n cs) (h1 : n = n') (h2 : cs = cs') : Gw s0 s e sz v n' cs' := by subst h1 h2; exact h
theorem Gw.len (h : Gw s0 s e sz v n cs) : cs.length = n * sz := by cases h <;> simp_all
theorem Gw.blk (h : Gw s0 s e sz v n cs) {b : Nat} (hb : bR v = some b) : s0.size ≤ b ∧ b < s.size := by
  cases h with
  | nil => simp [bR] at hb
  | emp => simp [bR] at hb
  | row b' sp n cs h1 h2 h3 => simp [bR] at hb; subst hb; exact ⟨h2, VS.lt_of_get h1⟩
  | room b' n N cs zs e' h1 h2 h3 h4 h5 => simp [bR] at hb; subst hb; exact ⟨h2, VS.lt_of_get h1⟩
theorem Gw.get {s' : VS} (h : Gw s0 s e sz v n cs) (hg : ∀ b, bR v = some b → s'.get b = s.get b) : Gw s0 s' e sz v n cs := by
  cases h with
  | nil => exact .nil
  | emp => exact .emp
  | row b sp n cs h1 h2 h3 => exact .row b sp n cs ((hg b rfl).trans h1) h2 h3
  | room b n N cs zs e' h1 h2 h3 h4 h5 => exact .room b n N cs zs e' ((hg b rfl).trans h1) h2 h3 h4 h5
theorem Gw.push (h : Gw s0 s e sz v n cs) (o : VO) : Gw s0 (s.push o) e sz v n cs := h.get fun b hb => dN (by have := (h.blk hb).2; omega)
theorem Gw.set (h : Gw s0 s e sz v n cs) {c : Nat} (hc : bR v ≠ some c) (o : VO) : Gw s0 (s.set c o) e sz v n cs := h.get fun b hb => bZ (by rintro rfl; exact hc hb)
theorem Gw.keep {s' : VS} (h : Gw s0 s e sz v n cs) (k : af s s') : Gw s0 s' e sz v n cs := h.get fun b hb => (k.2 b (h.blk hb).2).1
theorem Gw.isSl (h : Gw s0 s e sz v n cs) (hn : 0 < n) : ∃ a c, v = .sl a n c := by
  cases h with
  | nil => omega
  | emp => omega
  | row b sp n cs h1 h2 h3 => exact ⟨_, _, rfl⟩
  | room b n N cs zs e' h1 h2 h3 h4 h5 => exact ⟨_, _, rfl⟩
theorem Gw.mono {s1 : VS} (h : Gw s0 s e sz v n cs) (hs : s1.size ≤ s0.size) : Gw s1 s e sz v n cs := by
  cases h with
  | nil => exact .nil
  | emp => exact .emp
  | row b sp n cs h1 h2 h3 => exact .row b sp n cs h1 (Nat.le_trans hs h2) h3
  | room b n N cs zs e' h1 h2 h3 h4 h5 => exact .room b n N cs zs e' h1 (Nat.le_trans hs h2) h3 h4 h5
theorem Gw.lenA (h : Gw s0 s e sz v n cs) {t e1 b c : Nat} {z : Value} (ht : X.ty t = some ⟨.slice e1, b, c, z⟩) (s2 : VS) : lenA X t v s2 = some (n : Int) := by
  cases h <;> simp only [Ab.lenA, ht] <;> rfl
theorem But.kw {s' : VS} (h : But s s' v) (k : af s0 s) (hg : Gw s0 s e sz v n cs) : af s0 s' := by
  refine ⟨Nat.le_trans k.1 h.1, fun b hb => ?_⟩
  have h1 := h.2 b (Nat.lt_of_lt_of_le hb k.1) (fun he => by have := (hg.blk he).1; omega)
  have h2 := k.2 b hb
  exact ⟨h1.1.trans h2.1, h1.2.trans h2.2⟩
theorem But.refl (v : AV) : But s s v := ⟨Nat.le_refl _, fun _ _ _ => ⟨rfl, rfl⟩⟩
theorem But.push (o : VO) (v : AV) : But s (s.push o) v := ⟨by rw [ac]; omega, fun b hb _ => ⟨dN (by omega), rfl⟩⟩
theorem But.trans {s1 s2 : VS} {u : AV} (h : But s s1 v) (k : But s1 s2 u) (hu : ∀ b, b < s.size → bR u = some b → bR v = some b) : But s s2 v := ⟨Nat.le_trans h.1 k.1, fun b hb hne => by
  have h1 := h.2 b hb hne
  have h2 := k.2 b (Nat.lt_of_lt_of_le hb h.1) (fun hx => hne (hu b hb hx))
  exact ⟨h2.1.trans h1.1, h2.2.trans h1.2⟩⟩
theorem Gw.append {te : Ty} {m : Nat} {ws : List AV} (h : Gw s0 s e sz v n cs) (hk : s0.size ≤ s.size) (hz : te.size = sz) (hw : ws.length = m * sz) (ho : ws.all ie = true) (hr : aO (n + m) te.bytes = true) :
    ∃ v' s', aH te e m ws v s = some (v', s') ∧ Gw s0 s' e sz v' (n + m) (cs ++ ws) ∧ But s s' v ∧ ∀ b, b < s.size → bR v' = some b → bR v = some b := by
  by_cases hm : m = 0
  · subst hm
    have hw0 : ws = [] := List.eq_nil_of_length_eq_zero (by omega)
    subst hw0
    refine ⟨v, s, ?_, by rw [List.append_nil]; exact h, ⟨Nat.le_refl _, fun _ _ _ => ⟨rfl, rfl⟩⟩, fun _ _ h => h⟩
    cases h <;> simp [aH]
  · have hpush : ∀ (r : Jg), But s (s.push (.own r)) v := fun r => ⟨by rw [ac]; omega, fun b hb _ => ⟨dN (by omega), rfl⟩⟩
    have hnew : ∀ b, b < s.size → bR (.sl ⟨s.size, 0, none⟩ (n + m) (aY (n + m))) = some b → bR v = some b := fun b hb h => by simp [bR] at h; omega
    cases h with
    | nil =>
      rw [Nat.zero_add] at hr
      exact ⟨_, _, by simp only [aH, if_neg hm]; rw [if_pos hr]; simp only [Nat.zero_add]; rfl, .row s.size none (0 + m) ([] ++ ws) (bB rfl) hk (by simpa using hw), hpush _, by simpa using hnew⟩
    | emp =>
      rw [Nat.zero_add] at hr
      exact ⟨_, _, by simp only [aH, if_neg hm]; rw [if_pos hr]; simp only [Nat.zero_add]; rfl, .row s.size none (0 + m) ([] ++ ws) (bB rfl) hk (by simpa using hw), hpush _, by simpa using hnew⟩
    | row b sp n cs h1 h2 h3 =>
      have hb := VS.lt_of_get h1
      have hc : aO (n + m) te.bytes = true ∧ ep (⟨b, 0, sp⟩ : Addr) = sp.getD 0 ∧ (⟨b, 0, sp⟩ : Addr).off = 0 ∧ cs.length = n * te.size ∧ e = e ∧ ws.all ie = true ∧ 0 ≤ n * te.size ∧ false = false := ⟨hr, rfl, rfl, by rw [hz]; exact h3, rfl, ho, Nat.zero_le _, rfl⟩
      refine ⟨.sl ⟨b, 0, some (sp.getD 0 + 1)⟩ (n + m) (aY (n + m)), s.set b (.own ⟨cs ++ ws, e, sp.getD 0 + 1, 0, false⟩), ?_, ?_, ?_, fun c _ h => by simpa [bR] using h⟩
      · simp only [aH, if_neg hm, dK, lb]
        rw [if_neg (by omega), if_neg (by omega)]
        simp only [h1]
        exact if_pos (by simpa using hc)
      · exact .row b (some (sp.getD 0 + 1)) (n + m) _ (ef rfl hb) h2 (by rw [List.length_append, h3, hw, Nat.add_mul])
      · refine ⟨by rw [ae]; exact Nat.le_refl _, fun c hc' hne => ?_⟩
        have : c ≠ b := by rintro rfl; exact hne rfl
        exact ⟨bZ this, eZ this⟩
    | room b n N cs zs e' h1 h2 h3 h4 h5 =>
      have hb := VS.lt_of_get h1
      by_cases hN : n + m ≤ N
      · have hle : n * sz + m * sz ≤ N * sz := by rw [← Nat.add_mul]; exact Nat.mul_le_mul_right sz hN
        have hwr : s.wr (Addr.fwd ⟨b, 0, none⟩ (n * te.size)) ws = some (s.set b (.own ⟨overA (cs ++ zs) (n * sz) ws, e', 0, 0, false⟩)) := by
          rw [show Addr.fwd ⟨b, 0, none⟩ (n * te.size) = ⟨b, n * sz, none⟩ by simp [Addr.fwd, hz], Jj, h1, JP, if_pos ⟨rfl, by rw [h4, hw]; exact hle, Nat.zero_le _, rfl, ho⟩]
        refine ⟨_, _, by simp only [aH, if_neg hm, bA, if_pos hN, hwr, Option.map_some]; rfl, ?_, ?_, fun c _ h => by simpa [bR] using h⟩
        · rw [xy h3]
          refine .room b (n + m) N (cs ++ ws) (zs.drop ws.length) e' (ef rfl hb) h2 (by rw [List.length_append, h3, hw, Nat.add_mul]) ?_ hN
          rw [List.length_append] at h4
          simp only [List.length_append, List.length_drop]
          omega
        · refine ⟨by rw [ae]; exact Nat.le_refl _, fun c hc' hne => ?_⟩
          have : c ≠ b := by rintro rfl; exact hne rfl
          exact ⟨bZ this, eZ this⟩
      · have hrd : s.rd ⟨b, 0, none⟩ (n * te.size) = some cs := by
          have hle : n * sz ≤ N * sz := Nat.mul_le_mul_right sz h5
          rw [UH, h1, Lb, hz, if_pos ⟨rfl, by rw [h4]; omega⟩, List.drop_zero, ← h3, List.take_left' rfl]
        refine ⟨_, _, ?_, .row s.size none (n + m) (cs ++ ws) (bB rfl) hk (by rw [List.length_append, h3, hw, Nat.add_mul]), hpush _, hnew⟩
        simp only [aH, if_neg hm, bA, uR, hrd, Option.map_some, if_neg hN]
        rw [if_pos (by decide), if_pos hr]
        rfl
theorem Gw.step {te : Ty} {m : Nat} {ws : List AV} {k : AV → VS → Prop} (h : Gw s0 s e sz v n cs) (hk : af s0 s) (hz : te.size = sz) (hw : ws.length = m * sz) (ho : ws.all ie = true) (hr : aO (n + m) te.bytes = true)
    (hK : ∀ v' s', Gw s0 s' e sz v' (n + m) (cs ++ ws) → But s s' v → (∀ b, b < s.size → bR v' = some b → bR v = some b) → af s0 s' → k v' s') : fC (aH te e m ws v s) k := by
  obtain ⟨v', s', h1, h2, h3, h4⟩ := h.append hk.1 hz hw ho hr
  rw [h1, nV]
  exact hK v' s' h2 h3 h4 (h3.kw hk h)
theorem Gw.se {P N : Nat → Prop} (h : Gw s0 s e sz v n cs) (hp : ∀ b, s0.size ≤ b → P b) {xs : List (List AV)} (hx : cs = xs.flatten) (hz : ∀ x ∈ xs, x.length = sz) (hn : n = xs.length) (hf : aN cs) : Se X P N s v (.lst sz xs) := by
  cases h with
  | nil => have : xs = [] := List.eq_nil_of_length_eq_zero hn.symm
           subst this; exact Se.nil sz
  | emp => have : xs = [] := List.eq_nil_of_length_eq_zero hn.symm
           subst this; exact Se.emp sz
  | row b sp n cs h1 h2 h3 =>
    refine Se.sl h1 (hp _ h2) rfl ?_ (by rw [dK]; omega) hn.symm hz ?_
    · show 0 + n * sz ≤ cs.length; omega
    · show Ses X P N s ((cs.drop 0).take (n * sz)) xs.flatten
      rw [List.drop_zero, ← h3, List.take_length, hx]
      exact Ses.firm (hx ▸ hf)
  | room b n M cs zs e' h1 h2 h3 h4 h5 =>
    have hle : n * sz ≤ M * sz := Nat.mul_le_mul_right sz h5
    refine Se.sl h1 (hp _ h2) rfl ?_ (by rw [bA]; omega) hn.symm hz ?_
    · show 0 + n * sz ≤ (cs ++ zs).length; omega
    · show Ses X P N s (((cs ++ zs).drop 0).take (n * sz)) xs.flatten
      rw [List.drop_zero, ← h3, List.take_left' rfl, hx]
      exact Ses.firm (hx ▸ hf)
theorem Gw.out (h : Gw s0 s e sz v n cs) (hk : af s0 s) {xs : List (List AV)} (hx : cs = xs.flatten) (hz : ∀ x ∈ xs, x.length = sz) (hf : aN cs) (hs : 0 < sz) : qW X s0 (.lst sz xs) v s := by
  refine ⟨hk, h.se (fun b hb => hb) hx hz ?_ hf⟩
  have h1 := h.len
  rw [hx, ik hz] at h1
  exact (Nat.eq_of_mul_eq_mul_right hs h1).symm
theorem Gw.outm {α : Type} {f : α → List AV} {l : List α} (h : Gw s0 s e sz v n (l.map f).flatten) (hk : af s0 s) (hz : ∀ x, (f x).length = sz) (hf : ∀ x, aN (f x)) (hs : 0 < sz) : qW X s0 (.lst sz (l.map f)) v s :=
  h.out hk rfl (eG hz) (aN.flat (eG hf)) hs
end Go.Proofs.YticllcglldbffaaDoor.Ab
end
section
namespace Go.Proofs.YticllcglldbffaaDoor.Ab
attribute [push_cast] auG Tf awT akF ZP nV aj6 ajR al5 awN axX ax7 azH as5 Sx awF ajJ VT Tn
attribute [push_cast] UY auS ak6 alX as1 amG ajX alF aj3 Ld amL S8 alI atE avS alV
attribute [push_cast] Ic BM FQ acM acQ aiR Jn TL Jf Ks ajT HI aw7 ayQ
attribute [push_cast] UD atP Dm US akO alL akH aw aq alD ajA au.get_set ar XD ak4 R5 atM VX
attribute [push_cast] J3 II ax9 awL as8 akQ af0 amC H5 PW
attribute [push_cast] agA ae5 ajI asG alG alR atS as7
attribute [push_cast] avX aw1 at1 auJ amB akC ajH al1
attribute [push_cast] ajD ak5 akL aj9 akM al0 alH atL asM al9 S2 Wl KK ar9
attribute [push_cast] au3 S1 Ki Tj Sa Jy UR VV akI adX ac ae dN bB bZ ef YT eZ UH
attribute [push_cast] Lb Jj JP at2 alS ajE alQ Z6 TT awW Xr Addr.fwd_zero La au2
attribute [push_cast] atY aw8 axC atJ atX zu R8 Fl Tg akR J6
attribute [push_cast] R3 sqN sqE sqR bkN bkE bkR cdT cdF itN itE itR asP Tm alK
attribute [push_cast] avM au5 amM amJ atW atA alZ awM as4 amK al6 dK bA lb
attribute [push_cast] uR axN azT auL atV au0 atO alT ajU ab6 ak7 atG agI
attribute [push_cast] ax0 ZE J7 YC T5 akU
attribute [push_cast] aw9 abN Xj auN VY Id asV
attribute [push_cast] List.toList_toArray List.map_cons List.map_nil List.getElem?_toArray List.getElem?_cons_succ List.getElem?_cons_zero Option.bind_some Option.bind_none Option.map_some Option.map_none and_self Nat.add_zero Nat.zero_add eq_self Bool.false_eq_true Bool.true_eq_false Bool.not_true Bool.not_false beq_self_eq_true Bool.true_beq
attribute [push_cast] Bool.false_beq beq_true beq_false and_true true_and and_false false_and ne_eq not_false_eq_true not_true_eq_false List.cons_append List.nil_append List.append_nil Option.some.injEq decide_true decide_false List.getD_cons_zero List.getD_cons_succ Nat.succ_ne_self Nat.mul_one
attribute [push_cast] Nat.one_mul Nat.zero_mul List.map_toArray Option.getD_some Option.getD_none List.take_succ_cons List.take_zero List.take_nil List.drop_succ_cons List.drop_zero List.drop_nil List.length_cons List.length_nil List.length_map List.size_toArray Nat.sub_self Nat.sub_zero Nat.le_refl Nat.zero_le List.all_cons
attribute [push_cast] List.all_nil Bool.and_self Bool.and_true Bool.true_and Bool.and_false Bool.false_and Option.isNone_some Option.isNone_none Option.isSome_some Option.isSome_none decide_not Bool.not_eq_true Int.sub_zero Int.add_zero Int.zero_add Int.natCast_add List.contains_cons List.contains_nil Bool.or_false Bool.false_or
attribute [push_cast] Bool.or_true Bool.true_or Nat.ble_eq Nat.add_lt_add_iff_right Cw gI kP aeU HO uv gU ie overA jM hF uA nr nW Ty.agg
attribute [push_cast] Il vI ff fi oE lenA akV Y9 aaR af1 ib iX tX Qg PM Bv BJ jk auU Fz
attribute [push_cast] BD nY ls jB tg jd bq IP bR uX Ii rN ow Iw fe bx dC bP jY IR
attribute [push_cast] I1 Zf Wi
end Go.Proofs.YticllcglldbffaaDoor.Ab
end
