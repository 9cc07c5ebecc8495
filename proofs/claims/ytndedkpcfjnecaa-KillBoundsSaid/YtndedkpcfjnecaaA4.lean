/- Each operation that reads no more than its operands: what the evaluator says is what the machine does. -/
import Derived.Test.YtndedkpcfjnecaaA3
import Derived.ChangeKeysEq
set_option linter.unusedSimpArgs false
set_option linter.unusedVariables false
set_option linter.unusedSectionVars false
namespace Go.Proofs.Ytndedkpcfjnecaa.Ab

structure Sound (X : Prg) (P : Program) : Prop where
  und : ∀ t ty, X.ty t = some ty → P.underlying t = some ty.und
  info : ∀ t ty, X.ty t = some ty → ∃ i, P.info? t = some i ∧ i.size = ty.size ∧ i.bytes = ty.bytes ∧ i.zero = some ty.zero
  zero : ∀ t ty, X.ty t = some ty → cstOk 2 ty.zero = true ∧ ty.zero.cells.size = ty.size ∧ (ty.agg = false → ty.size = 1)
  held : ∀ t, X.eqs t = true → P.stoodInHeld t = false
  guard : ∀ t, X.eqs t = true → P.eqGuardType P.depth t = false

section
variable {X : Prg} {P : Program} (H : Sound X P) {φ : Phi} (w : World)
include H
theorem run_und {t : Nat} {ty : Ty} (h : X.ty t = some ty) : (underlying t).run P w = .ok ty.und w := run_underlying (H.und t ty h) w
theorem run_ud {t : Nat} {d : TypeDesc} (h : X.und t = some d) : (underlying t).run P w = .ok d w := by
  unfold Prg.und at h
  split at h
  · rename_i ty h1
    cases h
    exact run_und H w h1
  · cases h
theorem run_inf {t : Nat} {ty : Ty} (h : X.ty t = some ty) : ∃ i, (typeInfo t).run P w = .ok i w ∧ i.size = ty.size ∧ i.bytes = ty.bytes ∧ i.zero = some ty.zero := by
  obtain ⟨i, h1, h2⟩ := H.info t ty h
  exact ⟨i, by simp [typeInfo, h1], h2⟩
theorem run_size {t : Nat} {ty : Ty} (h : X.ty t = some ty) : (sizeOf t).run P w = .ok ty.size w := by
  obtain ⟨i, h1, h2, _⟩ := run_inf H w h
  simp [sizeOf, h1, h2]
theorem run_zero {t : Nat} {ty : Ty} (h : X.ty t = some ty) : (zeroValue t).run P w = .ok ty.zero w := by
  obtain ⟨i, h1, _, _, h4⟩ := run_inf H w h
  simp [zeroValue, h1, h4]
theorem run_agg {t : Nat} {ty : Ty} (h : X.ty t = some ty) : (isAgg t).run P w = .ok ty.agg w := by
  have h1 := run_und H w h
  unfold isAgg Ty.agg
  simp only [Sem.run_bind, h1, Result.andThen_ok]
  cases ty.und <;> rfl

theorem part_run {t off : Nat} {cs cs' : Array Value} {v : Value} (h : partv X t cs off = some v) (hr : VRels φ cs.toList cs'.toList) : ∃ v', (part t cs' off).run P w = .ok v' w ∧ VRel φ v v' := by
  unfold partv at h
  split at h
  · rename_i ty hty
    unfold part
    simp only [Sem.run_bind, run_agg H w hty, Result.andThen_ok]
    have hlen := hr.length
    simp only [Array.length_toList] at hlen
    split at h
    · rename_i ha
      split at h
      · cases h
        refine ⟨.agg (cs'.extract off (off + ty.size)), by simp [ha, run_size H w hty], .agg _ _ ?_⟩
        simp only [Array.toList_extract, List.extract_eq_take_drop]
        exact (hr.drop _).take _
      · cases h
    · rename_i ha
      simp only [ha, if_false, Bool.false_eq_true]
      obtain ⟨v', h1, h2⟩ := hr.get off v (by simpa using h)
      refine ⟨v', ?_, h2⟩
      have : cs'[off]? = some v' := by simpa using h1
      simp [this]
  · cases h
end

theorem flat_same {φ : Phi} {k : FK} {x y x' y' : Value} {b : Bool} (h : flat k x y = some b) (hx : VRel φ x x') (hy : VRel φ y y') : x' = x ∧ y' = y := by
  unfold flat at h
  split at h
  · cases hx; cases hy; exact ⟨rfl, rfl⟩
  · cases hx; cases hy; exact ⟨rfl, rfl⟩
  · cases hx; cases hy; exact ⟨rfl, rfl⟩
  · cases h
theorem flats_same {φ : Phi} : ∀ {ks : List FK} {xs ys xs' ys' : List Value} {b : Bool}, flats ks xs ys = some b → VRels φ xs xs' → VRels φ ys ys' → xs' = xs ∧ ys' = ys
  | _, [], [], _, _, _, _, .nil, .nil => ⟨rfl, rfl⟩
  | [], x :: xs, y :: ys, _, _, b, h, _, _ => by simp [flats] at h
  | k :: ks, x :: xs, y :: ys, _, _, b, h, .cons _ x' _ xs' h1 h2, .cons _ y' _ ys' h3 h4 => by
    simp only [flats] at h
    split at h
    · rename_i a c ha hc
      obtain ⟨rfl, rfl⟩ := flat_same ha h1 h3
      obtain ⟨rfl, rfl⟩ := flats_same hc h2 h4
      exact ⟨rfl, rfl⟩
    · cases h
  | [], [], _ :: _, _, _, _, h, _, _ => by simp [flats] at h
  | _ :: _, [], _ :: _, _, _, _, h, _, _ => by simp [flats] at h
  | [], _ :: _, [], _, _, _, h, _, _ => by simp [flats] at h
  | _ :: _, _ :: _, [], _, _, _, h, _, _ => by simp [flats] at h
theorem flats_len : ∀ {ks : List FK} {xs ys : List Value} {b : Bool}, flats ks xs ys = some b → xs.length = ks.length ∧ ys.length = ks.length
  | [], [], [], _, _ => ⟨rfl, rfl⟩
  | k :: ks, x :: xs, y :: ys, b, h => by
    simp only [flats] at h
    split at h
    · rename_i a c ha hc
      have := flats_len hc
      simp [this]
    · cases h
  | [], [], _ :: _, _, h => by simp [flats] at h
  | [], _ :: _, _, _, h => by simp [flats] at h
  | _ :: _, [], _, _, h => by simp [flats] at h
  | _ :: _, _ :: _, [], _, h => by simp [flats] at h
theorem flats_append : ∀ {k1 k2 : List FK} {xs ys : List Value} {b : Bool}, flats (k1 ++ k2) xs ys = some b → ∃ b1 b2, flats k1 (xs.take k1.length) (ys.take k1.length) = some b1 ∧ flats k2 (xs.drop k1.length) (ys.drop k1.length) = some b2 ∧ b = (b1 && b2)
  | [], k2, xs, ys, b, h => ⟨true, b, by simp [flats], by simpa using h, by simp⟩
  | k :: k1, k2, x :: xs, y :: ys, b, h => by
    simp only [List.cons_append, flats] at h
    split at h
    · rename_i a c ha hc
      obtain ⟨b1, b2, h1, h2, rfl⟩ := flats_append hc
      cases h
      exact ⟨a && b1, b2, by simp [flats, ha, h1], by simpa using h2, by simp [Bool.and_assoc]⟩
    · cases h
  | _ :: _, _, [], _, _, h => by simp [flats] at h
  | _ :: _, _, _ :: _, [], _, h => by simp [flats] at h
theorem kreps_length (l : List FK) : ∀ n, (kreps l n).length = n * l.length
  | 0 => by simp [kreps]
  | n + 1 => by simp [kreps, kreps_length l n, Nat.succ_mul]; omega

section
variable {X : Prg} {P : Program} (H : Sound X P) (w : World)
include H
def EqK (X : Prg) (P : Program) (w : World) (d : Nat) : Prop := ∀ t ks, kindsOf X d t = some ks → ∀ D, d ≤ D → ∀ (xs ys : Array Value) off b, flats ks ((xs.toList.drop off).take ks.length) ((ys.toList.drop off).take ks.length) = some b → ∀ ty, X.ty t = some ty → ks.length = ty.size →
  ∃ a c, (part t xs off).run P w = .ok a w ∧ (part t ys off).run P w = .ok c w ∧ (Op.equalIn D t a c).run P w = .ok b w
theorem eqFields_run {d : Nat} (hd : EqK X P w d) (D : Nat) (hD : d ≤ D) (xs ys : Array Value) : ∀ (fs : List Field) (off : Nat) (ks : List FK) (b : Bool), fieldKinds X (kindsOf X d) fs off = some ks → flats ks (xs.toList.drop off) (ys.toList.drop off) = some b → (Op.eqFields D xs ys fs).run P w = .ok b w
  | [], off, ks, b, h, hb => by
    simp only [fieldKinds] at h
    cases h
    have : b = true := by
      generalize xs.toList.drop off = l1 at hb
      generalize ys.toList.drop off = l2 at hb
      cases l1 <;> cases l2 <;> simp [flats] at hb
      exact hb
    subst this
    simp [Op.eqFields]
  | f :: fs, off, ks, b, h, hb => by
    simp only [fieldKinds] at h
    split at h
    · rename_i ty ks1 hty hks
      split at h
      · rename_i hc
        obtain ⟨hn, ho, hl⟩ := hc
        simp only [Option.map_eq_some_iff] at h
        obtain ⟨ks2, h2, rfl⟩ := h
        obtain ⟨b1, b2, q1, q2, rfl⟩ := flats_append hb
        obtain ⟨a, c, p1, p2, p3⟩ := hd _ _ hks D hD xs ys off b1 q1 ty hty hl
        simp only [List.drop_drop] at q2
        have := eqFields_run hd D hD xs ys fs (off + ty.size) ks2 b2 h2 (by rw [← hl]; exact q2)
        simp only [Op.eqFields, if_pos hn, ho, Sem.run_bind, p1, p2, p3, Result.andThen_ok]
        cases b1
        · simp
        · simpa using this
      · cases h
    · cases h
theorem eqItems_run {d : Nat} (hd : EqK X P w d) (D : Nat) (hD : d ≤ D) (xs ys : Array Value) {e : Nat} {te : Ty} {ks : List FK} (hte : X.ty e = some te) (hks : kindsOf X d e = some ks) (hl : ks.length = te.size) : ∀ (n i : Nat) (b : Bool), flats (kreps ks n) (xs.toList.drop (i * te.size)) (ys.toList.drop (i * te.size)) = some b → (Op.eqItems D e te.size xs ys (List.range' i n)).run P w = .ok b w
  | 0, i, b, hb => by
    have : b = true := by
      simp only [kreps] at hb
      generalize xs.toList.drop (i * te.size) = l1 at hb
      generalize ys.toList.drop (i * te.size) = l2 at hb
      cases l1 <;> cases l2 <;> simp [flats] at hb
      exact hb
    subst this
    simp [Op.eqItems]
  | n + 1, i, b, hb => by
    obtain ⟨b1, b2, q1, q2, rfl⟩ := flats_append (k1 := ks) (k2 := kreps ks n) hb
    obtain ⟨a, c, p1, p2, p3⟩ := hd _ _ hks D hD xs ys (i * te.size) b1 q1 te hte hl
    simp only [List.drop_drop] at q2
    have := eqItems_run hd D hD xs ys hte hks hl n (i + 1) b2 (by rw [Nat.succ_mul, ← hl] at *; exact q2)
    simp only [List.range'_succ, Op.eqItems, Sem.run_bind, p1, p2, p3, Result.andThen_ok]
    cases b1
    · simp
    · simpa using this
theorem eqAgg {d : Nat} (hd : EqK X P w d) {t : Nat} {ks : List FK} (hk : kindsOf X (d + 1) t = some ks) {D : Nat} (hD : d ≤ D) {xs ys : Array Value} {b : Bool} (hb : flats ks xs.toList ys.toList = some b) {ty : Ty} (hty : X.ty t = some ty) (ha : ty.agg = true) : (Op.equalIn (D + 1) t (.agg xs) (.agg ys)).run P w = .ok b w := by
  simp only [kindsOf, hty] at hk
  split at hk
  · rename_i hu; simp [Ty.agg, hu] at ha
  · rename_i hu; simp [Ty.agg, hu] at ha
  · rename_i hu; simp [Ty.agg, hu] at ha
  · rename_i fs hu
    split at hk
    · rename_i he
      have hP := H.und _ _ hty
      rw [hu] at hP
      have hf : P.fieldsOf t = fs := by simp [Program.fieldsOf, hP]
      rw [run_equalIn_struct w D t xs ys (by rw [hf]; exact hP) (H.held t he), hf]
      exact eqFields_run H w hd D hD xs ys fs.toList 0 ks b hk (by simpa using hb)
    · cases hk
  · rename_i n e hu
    split at hk
    · rename_i te kse hte hkse
      split at hk
      · rename_i hc
        cases hk
        have hP := H.und _ _ hty
        rw [hu] at hP
        obtain ⟨i, hi, hs, _⟩ := H.info _ _ hte
        rw [run_equalIn_array w D xs ys hP hi]
        have hcell : P.cellsOf e = te.size := by simp [Program.cellsOf, hi, hs]
        rw [hcell, List.range_eq_range']
        exact eqItems_run H w hd D hD xs ys hte hkse hc.2 n 0 b (by simpa using hb)
      · cases hk
    · cases hk
  · cases hk
theorem eqK_all : ∀ d, EqK X P w d
  | 0 => fun t ks hk => by simp [kindsOf] at hk
  | d + 1 => by
    intro t ks hk D hD xs ys off b hb ty hty hl
    obtain ⟨D, rfl⟩ : ∃ D', D = D' + 1 := ⟨D - 1, by omega⟩
    have hlen := flats_len hb
    simp only [List.length_take, List.length_drop, Array.length_toList] at hlen
    by_cases ha : ty.agg = true
    · refine ⟨.agg (xs.extract off (off + ty.size)), .agg (ys.extract off (off + ty.size)), ?_, ?_, ?_⟩
      · unfold part; simp [Sem.run_bind, run_agg H w hty, ha, run_size H w hty]
      · unfold part; simp [Sem.run_bind, run_agg H w hty, ha, run_size H w hty]
      · refine eqAgg H w (eqK_all d) hk (by omega) ?_ hty ha
        simp only [Array.toList_extract, List.extract_eq_take_drop, Nat.add_sub_cancel_left]
        rw [← hl]; exact hb
    · have ha' : ty.agg = false := by simpa using ha
      have hsz := (H.zero _ _ hty).2.2 ha'
      have hu := H.und _ _ hty
      have hx : off < xs.size := by omega
      have hy : off < ys.size := by omega
      have g1 : (xs.toList.drop off).take 1 = [xs[off]] := by
        rw [List.drop_eq_getElem_cons (by simpa using hx)]; simp
      have g2 : (ys.toList.drop off).take 1 = [ys[off]] := by
        rw [List.drop_eq_getElem_cons (by simpa using hy)]; simp
      rw [hl, hsz, g1, g2] at hb
      refine ⟨xs[off], ys[off], ?_, ?_, ?_⟩
      · unfold part; simp [Sem.run_bind, run_agg H w hty, ha', hx]
      · unfold part; simp [Sem.run_bind, run_agg H w hty, ha', hy]
      · simp only [kindsOf, hty] at hk
        generalize xs[off] = x at hb
        generalize ys[off] = y at hb
        have one : ∀ k, ks = [k] → flat k x y = some b := by
          intro k hk'
          subst hk'
          simp only [flats] at hb
          split at hb
          · rename_i b1 b2 e1 e2; cases e2; rw [e1]; simpa using hb
          · cases hb
        split at hk
        · rename_i hd; cases hk; rw [hd] at hu
          have := one _ rfl
          unfold flat at this
          split at this
          all_goals first | (cases this; done) | skip
          all_goals (rename_i hq; cases hq)
          cases this
          simp [Op.equalIn, run_underlying hu]
        · rename_i k hd; cases hk; rw [hd] at hu
          have := one _ rfl
          unfold flat at this
          split at this
          all_goals first | (cases this; done) | skip
          all_goals (rename_i hq; cases hq)
          split at this
          · rename_i hc; cases this
            obtain ⟨rfl, rfl⟩ := hc
            simp [Op.equalIn, run_underlying hu]
          · cases this
        · rename_i hd; cases hk; rw [hd] at hu
          have := one _ rfl
          unfold flat at this
          split at this
          all_goals first | (cases this; done) | skip
          all_goals (rename_i hq; cases hq)
          cases this
          rw [run_equalIn_string w D t _ _ hu, ByteArray.toList_eq, ByteArray.toList_eq]
        · rename_i hd; simp [Ty.agg, hd] at ha'
        · rename_i hd; simp [Ty.agg, hd] at ha'
        · cases hk
end

theorem byteArray_toList (s : ByteArray) : s.toList = s.data.toList := by
  exact ByteArray.toList_eq s
theorem strLt_eq : ∀ (x y : List UInt8), Op.bytesLess x y = strLt x y
  | _, [] => by simp [Op.bytesLess, strLt]
  | [], _ :: _ => by simp [Op.bytesLess, strLt]
  | a :: x, b :: y => by simp [Op.bytesLess, strLt, strLt_eq x y]

theorem strOp_run {P : Program} (w : World) {op : BinOp} {x y : ByteArray} {v : Value} (h : strOp op x y = some v) : (Op.stringOp op x y).run P w = .ok v w := by
  unfold strOp at h
  unfold Op.stringOp
  simp only [byteArray_toList, strLt_eq]
  split at h <;> first
    | (cases h; done)
    | (cases h; rfl)
    | skip
  split at h
  · cases h
    rename_i hl
    have hb : ¬ (((x.size + y.size : Nat) : Int) > IntKind.i64.max) := by simp only [IntKind.max, IntKind.signed, IntKind.bits]; simp; omega
    rw [if_neg hb]
    simp only [Sem.run_pure]
    congr 2
  · cases h

theorem intOp_run {P : Program} (w : World) {op : BinOp} {k : IntKind} {x y : Int} {v : Value} {t : TypeId} (h : intOp op k x y = some v) :
    (binOp op t (.int k x) (.int k y)).run P w = .ok v w := by
  unfold intOp at h
  split at h <;> first
    | (cases h; simp [binOp, Op.intArith]; done)
    | skip
  all_goals first
    | (split at h <;> first | (cases h; done) | (cases h; rename_i hy; simp [binOp, Op.intDiv, hy]; done))
    | skip
  all_goals first
    | (simp only [bitsI, Option.map_some, Option.some.injEq] at h; subst h; simp [binOp, Op.intBits]; done)
    | (cases h; done)
    | skip
  unfold cmpI at h
  split at h <;> simp at h <;> (try subst h) <;> first
    | (simp [binOp, Op.intCmp]; done)
    | (exfalso; simp_all; done)

section
variable {X : Prg} {P : Program} (H : Sound X P) {φ : Phi} (w : World)
include H
theorem eqv0_run (d : Nat) {t : Nat} {x y x' y' : Value} {b : Bool} (h : eqv0 X t x y = some b) (hx : VRel φ x x') (hy : VRel φ y y') : (Op.equalIn (d + 1) t x' y').run P w = .ok b w := by
  unfold eqv0 at h
  split at h
  · cases hx; cases hy
    split at h
    · rename_i hd; cases h
      simp [Op.equalIn, run_ud H w hd]
    · cases h
  · cases hx
    split at h
    · rename_i hd; cases h
      cases hy <;> simp [Op.equalIn, run_ud H w hd]
    · cases h
  · cases hx; cases hy
    split at h
    · rename_i hd; cases h
      simp [Op.equalIn, run_ud H w hd]
    · cases h
  · split at h
    · rename_i hd
      split at h
      · rename_i te hte
        split at h
        · rename_i hc; cases h
          obtain ⟨hz, rfl⟩ := hc
          cases hx with | ptr a l hl =>
          cases hy with | ptr a l' hl' =>
          rw [hl] at hl'; cases hl'
          simp only [Op.equalIn, Sem.run_bind, run_ud H w hd, Result.andThen_ok, run_size H w hte]
          simp [hz, sameAddr]
        · cases h
      · cases h
    · cases h
  · split at h
    · rename_i hd; cases h
      cases hx
      cases hy <;> simp [Op.equalIn, run_ud H w hd]
    · cases h
  · split at h
    · rename_i hd; cases h
      cases hx; cases hy; simp [Op.equalIn, run_ud H w hd]
    · cases h
  · split at h
    · rename_i hd; cases h
      cases hx
      cases hy <;> simp [Op.equalIn, run_ud H w hd]
    · cases h
  · split at h
    · rename_i hd; cases h
      cases hx; cases hy; simp [Op.equalIn, run_ud H w hd]
    · cases h
  · split at h
    · rename_i hd; cases h
      cases hx; cases hy; simp [Op.equalIn, run_ud H w hd]
    · cases h
  · split at h
    · rename_i hd; cases h
      cases hx; cases hy; simp [Op.equalIn, run_ud H w hd]
    · cases h
  · split at h
    · rename_i hd; cases h
      cases hx; cases hy; simp [Op.equalIn, run_ud H w hd]
    · cases h
  · cases h
theorem eqv_run {t : Nat} {x y x' y' : Value} {b : Bool} (h : eqv X t x y = some b) (hx : VRel φ x x') (hy : VRel φ y y') : (Op.equal t x' y').run P w = .ok b w := by
  unfold eqv at h
  split at h
  · split at h
    · rename_i ty ks hty hks
      split at h
      · rename_i hagg
        cases hx with | agg xs xs' h1 =>
        cases hy with | agg ys ys' h2 =>
        obtain ⟨e1, e2⟩ := flats_same h h1 h2
        have e1 := Array.toList_inj.1 e1
        have e2 := Array.toList_inj.1 e2
        subst e1; subst e2
        exact eqAgg H w (eqK_all H w 7) hks (by omega) h hty hagg
      · cases h
    · cases h
  · exact eqv0_run H w 9999 h hx hy

omit H in
theorem kinds_eqs {d t : Nat} {ks : List FK} {ty : Ty} (h : kindsOf X d t = some ks) (hty : X.ty t = some ty) (ha : ty.agg = true) : X.eqs t = true := by
  cases d with
  | zero => simp [kindsOf] at h
  | succ d =>
    simp only [kindsOf, hty] at h
    unfold Ty.agg at ha
    repeat' split at h
    all_goals first | (cases h; done) | assumption | (rename_i hc; exact hc.1) | simp_all
theorem eqGuard_run {t : Nat} {x y : Operand} {a b a' b' : Value} {c : Bool} {op : BinOp} (h : eqv X t a b = some c) (hx : VRel φ a a') (hy : VRel φ b b') : (eqGuard op t x y a' b').run P w = .ok () w := by
  unfold eqGuard
  unfold eqv at h
  split at h
  · split at h
    · rename_i ty ks hty hks
      split at h
      · rename_i hagg
        cases hx with | agg xs xs' h1 =>
        cases hy with | agg ys ys' h2 =>
        have hg := H.guard _ (kinds_eqs hks hty hagg)
        cases op <;> simp [hg]
      · cases h
    · cases h
  · unfold eqv0 at h
    split at h <;> first
      | (cases h; done)
      | (cases hx <;> cases hy <;> simp <;> done)
omit H in
theorem eqGuard_int (op : BinOp) (t : TypeId) (x y : Operand) (k k' : IntKind) (a b : Int) : (eqGuard op t x y (.int k a) (.int k' b)).run P w = .ok () w := by
  unfold eqGuard
  simp
omit H in
theorem eqGuard_str (op : BinOp) (t : TypeId) (x y : Operand) (a b : ByteArray) : (eqGuard op t x y (.string a) (.string b)).run P w = .ok () w := by
  unfold eqGuard
  simp

theorem binOp_run {t : Nat} {x y : Operand} {a b a' b' v : Value} {op : BinOp} (h : binOpv X op t a b = some v) (hx : VRel φ a a') (hy : VRel φ b b') :
    ∃ v', (do eqGuard op t x y a' b'; binOp op t a' b' : Sem Value).run P w = .ok v' w ∧ VRel φ v v' := by
  unfold binOpv at h
  split at h
  · cases hx; cases hy
    split at h
    · cases h
    · rename_i hb; cases h
      refine ⟨_, ?_, .int _ _⟩
      simp only [Sem.run_bind, eqGuard_int w, Result.andThen_ok]
      simp [binOp, Op.shift, hb]
  · cases hx; cases hy
    split at h
    · cases h
    · rename_i hb; cases h
      refine ⟨_, ?_, .int _ _⟩
      simp only [Sem.run_bind, eqGuard_int w, Result.andThen_ok]
      simp [binOp, Op.shift, hb]
  · cases hx; cases hy
    split at h
    · rename_i hk; subst hk
      refine ⟨v, ?_, ?_⟩
      · simp only [Sem.run_bind, eqGuard_int w, Result.andThen_ok]
        exact intOp_run w h
      · unfold intOp at h
        repeat' split at h
        all_goals first
          | (cases h; constructor; done)
          | (simp only [Option.map_eq_some_iff] at h; obtain ⟨_, _, rfl⟩ := h; constructor; done)
          | (cases h; done)
    · cases h
  · cases hx; cases hy
    refine ⟨v, ?_, ?_⟩
    · simp only [Sem.run_bind, eqGuard_str w, Result.andThen_ok]
      have : ∀ op a b, (binOp op t (.string a) (.string b)) = Op.stringOp op a b := by intro op a b; cases op <;> rfl
      rw [this]
      exact strOp_run w h
    · unfold strOp at h
      repeat' split at h
      all_goals first
        | (cases h; constructor; done)
        | (cases h; done)
  · simp only [Option.map_eq_some_iff] at h
    obtain ⟨c, h, rfl⟩ := h
    refine ⟨.bool c, ?_, .bool _⟩
    simp only [Sem.run_bind, eqGuard_run H w h hx hy, Result.andThen_ok]
    have hr := eqv_run H w h hx hy
    rename_i n1 n2 n3 n4
    cases hx <;> cases hy <;> first
      | (simp only [binOp, Sem.run_bind, hr, Result.andThen_ok]; rfl)
      | exact (n3 _ _ _ _ rfl rfl).elim
      | exact (n4 _ _ rfl rfl).elim
      | (exfalso; simp_all; done)
      | (exfalso; simp [eqv] at h; done)
      | skip
  · simp only [Option.map_eq_some_iff] at h
    obtain ⟨c, h, rfl⟩ := h
    refine ⟨.bool (!c), ?_, .bool _⟩
    simp only [Sem.run_bind, eqGuard_run H w h hx hy, Result.andThen_ok]
    have hr := eqv_run H w h hx hy
    rename_i n1 n2 n3 n4
    cases hx <;> cases hy <;> first
      | (simp only [binOp, Sem.run_bind, hr, Result.andThen_ok]; rfl)
      | exact (n3 _ _ _ _ rfl rfl).elim
      | exact (n4 _ _ rfl rfl).elim
      | (exfalso; simp_all; done)
      | (exfalso; simp [eqv] at h; done)
      | skip
  · cases h

omit H in
theorem unOp_run {x x' v : Value} {op : UnOp} (h : unOpv op x = some v) (hx : VRel φ x x') : ∃ v', (Op.unary op x').run P w = .ok v' w ∧ VRel φ v v' := by
  unfold unOpv at h
  split at h
  · cases hx; cases h
    exact ⟨_, by simp [Op.unary, Op.intArith], .int _ _⟩
  · cases hx
    simp only [bitsI, Option.map_some, Option.some.injEq] at h
    subst h
    exact ⟨_, by simp [Op.unary, Op.intBits], .int _ _⟩
  · cases hx; cases h
    exact ⟨_, by simp [Op.unary], .bool _⟩
  · cases h
end
end Go.Proofs.Ytndedkpcfjnecaa.Ab
