/- Regions whose order is open: whatever the order, what the text's order gives. -/
import Derived.Test.YticllcglldbffaaC2
import Derived.Scope
import Derived.LoopN
import Derived.Laws.Externs
import Derived.Lib.MakeNoZero
set_option linter.unusedSimpArgs false
set_option linter.unusedVariables false
set_option linter.unusedSectionVars false
section
namespace Go.Proofs.Yticllcglldbffaa.Ab
def eff (L : List Oper) (j : Nat) : Bool := match L[j]? with
  | some o => isEff o.op
  | none => false
theorem eff_some {L : List Oper} {j : Nat} {o : Oper} (h : L[j]? = some o) : eff L j = isEff o.op := by unfold eff; rw [h]
theorem stepOp_quiet {call : Caller} {X : Prg} {o : Oper} {ρ : Env} {s : St} (h : isEff o.op = false) : stepOp call X o ρ s = aop X (evo ρ) o.op s := by
  unfold stepOp
  split
  · rename_i f args at_ hop
    rw [hop] at h
    simp [isEff] at h
  · rfl
structure StepR (φ φ' : Phi) (s : St) (hi : Nat) (w w' : World) : Prop where
  le : φ.le φ'
  new : ∀ b e l, φ' b e = some l → φ b e = some l ∨ (s.size ≤ b ∧ b < hi ∧ w.heap.size ≤ l.c) ∨ (∃ e0 l0, φ b e0 = some l0 ∧ isMut (s.get b) = true ∧ (l0.c = l.c ∨ w.heap.size ≤ l.c))
  os : w'.os = w.os
  tape : w'.tape = w.tape
  output : w'.output = w.output
  wsize : w.heap.size ≤ w'.heap.size
  frm : ∀ c, c < w.heap.size → (∀ b e l, φ b e = some l → l.c = c → isMut (s.get b) = false) → w'.heap[c]? = w.heap[c]?
theorem StepR.then {φ0 φ φ' : Phi} {s0 s s' : St} {hi : Nat} {w0 w w' : World} (h : StepR φ0 φ s0 hi w0 w) (k : Step φ φ' s s' w w') (hf : Fresh φ0 s0.size hi)
    (hin : ∀ b, s.size ≤ b → b < s'.size → s0.size ≤ b ∧ b < hi) (hm : ∀ b, isMut (s.get b) = true → isMut (s0.get b) = true ∨ (s0.size ≤ b ∧ b < hi)) : StepR φ0 φ' s0 hi w0 w' := by
  refine ⟨fun b e l hb => k.le _ _ _ (h.le _ _ _ hb), fun b e l hb => ?_, k.os.trans h.os, k.tape.trans h.tape, k.output.trans h.output, Nat.le_trans h.wsize k.wsize, fun c hc hcm => ?_⟩
  · have hw := h.wsize
    rcases k.new b e l hb with h3 | ⟨h3, h4, h5⟩ | ⟨e0, l0, h3, h4, h5⟩
    · exact h.new b e l h3
    · obtain ⟨g1, g2⟩ := hin b h3 h4
      exact .inr (.inl ⟨g1, g2, by omega⟩)
    · rcases h.new b e0 l0 h3 with h6 | ⟨h6, h7, h8⟩ | ⟨e1, l1, h6, h7, h8⟩
      · rcases hm b h4 with g | ⟨g1, g2⟩
        · exact .inr (.inr ⟨e0, l0, h6, g, by rcases h5 with h5 | h5; exact .inl h5; exact .inr (by omega)⟩)
        · rw [hf b e0 g1 g2] at h6; cases h6
      · exact .inr (.inl ⟨h6, h7, by rcases h5 with h5 | h5; rw [← h5]; exact h8; omega⟩)
      · refine .inr (.inr ⟨e1, l1, h6, h7, ?_⟩)
        rcases h5 with h5 | h5
        · rw [← h5]; exact h8
        · exact .inr (by omega)
  · have hw := h.wsize
    rw [k.frm c (by omega) ?_, h.frm c hc hcm]
    intro b e l hb hl
    cases hmb : isMut (s.get b) with
    | false => rfl
    | true =>
      exfalso
      rcases h.new b e l hb with h6 | ⟨h6, h7, h8⟩ | ⟨e1, l1, h6, h7, h8⟩
      · rcases hm b hmb with g | ⟨g1, g2⟩
        · rw [hcm b e l h6 hl] at g; cases g
        · rw [hf b e g1 g2] at h6; cases h6
      · omega
      · rcases h8 with h8 | h8
        · rw [hcm b e1 l1 h6 (by rw [h8]; exact hl)] at h7; cases h7
        · omega
section
variable {X : Prg} {P : Program} (H : SoundF X P) {call : Caller} (HC : CallOk X P call)
variable {L : List Oper} {ρ0 : Env} {s0 : St} {T : Env} {s1 : St} {R : Nat → Env} {S : Nat → St}
variable (HT : Tr2 call X L.toArray L ρ0 s0 T s1 (trace call X L.toArray L ρ0 s0) R S) (HS : Stat X L)
include HC HT in
theorem keep_step {i : Nat} (hi : i < L.length) : Keep (S i) (S (i + 1)) := by
  rcases HT.step i _ (List.getElem?_eq_getElem hi) with ⟨_, v, h1, _⟩ | ⟨_, h1, _⟩
  · exact stepOp_keep HC h1
  · rw [h1]; exact Keep.refl _
include HC HT in
theorem keep_le : ∀ {i k : Nat}, i ≤ k → k ≤ L.length → Keep (S i) (S k) := by
  intro i k hik
  induction k with
  | zero => intro _; obtain rfl : i = 0 := by omega
            exact Keep.refl _
  | succ k ih =>
    intro hk
    by_cases h : i = k + 1
    · subst h; exact Keep.refl _
    · exact (ih (by omega) (by omega)).trans (keep_step HC HT (by omega))
include HT in
theorem quiet_step {i : Nat} (hi : i < L.length) (he : eff L i = false) : S (i + 1) = S i ∨ ∃ o, S (i + 1) = (S i).push o := by
  have ho := List.getElem?_eq_getElem hi
  rw [eff_some ho] at he
  rcases HT.step i _ ho with ⟨_, v, h1, _⟩ | ⟨_, h1, _⟩
  · rw [stepOp_quiet he] at h1
    rcases aop_quiet h1 he with ⟨_, h2⟩ | ⟨_, o, h2, _⟩
    · exact .inl h2
    · exact .inr ⟨o, h2⟩
  · exact .inl h1
include HC HT in
theorem quiet_get : ∀ {p q : Nat}, p ≤ q → q ≤ L.length → (∀ j, p ≤ j → j < q → eff L j = false) → ∀ x, x < (S p).size → (S q).get x = (S p).get x := by
  intro p q hpq
  induction q with
  | zero => intro _ _ x _; obtain rfl : p = 0 := by omega
            rfl
  | succ q ih =>
    intro hq hn x hx
    by_cases h : p = q + 1
    · subst h; rfl
    · have h1 := ih (by omega) (by omega) (fun j h1 h2 => hn j h1 (by omega)) x hx
      have h2 := (keep_le HC HT (show p ≤ q by omega) (by omega)).1
      rcases quiet_step HT (show q < L.length by omega) (hn q (by omega) (by omega)) with h3 | ⟨o, h3⟩
      · rw [h3, h1]
      · rw [h3, St.get_push, if_neg (by omega), h1]
open Classical in
noncomputable def Z (L : List Oper) (S : Nat → St) (x : Nat) : Option AObj :=
  if h : ∃ i, i < L.length ∧ (S i).size ≤ x ∧ x < (S (i + 1)).size then (S (Classical.choose h + 1)).get x else none
include HC HT in
theorem Z_eq {i x : Nat} (hi : i < L.length) (h1 : (S i).size ≤ x) (h2 : x < (S (i + 1)).size) : Z L S x = (S (i + 1)).get x := by
  have h : ∃ i, i < L.length ∧ (S i).size ≤ x ∧ x < (S (i + 1)).size := ⟨i, hi, h1, h2⟩
  unfold Z
  rw [dif_pos h]
  obtain ⟨g1, g2, g3⟩ := Classical.choose_spec h
  have : Classical.choose h = i := by
    rcases Nat.lt_trichotomy (Classical.choose h) i with hlt | heq | hgt
    · have := (keep_le HC HT (show Classical.choose h + 1 ≤ i by omega) (by omega)).1; omega
    · exact heq
    · have := (keep_le HC HT (show i + 1 ≤ Classical.choose h by omega) (by omega)).1; omega
  rw [this]
noncomputable def G (L : List Oper) (S : Nat → St) (q x : Nat) : Option AObj := if x < (S q).size then (S q).get x else Z L S x
include HT in
theorem R_keep : ∀ {i k : Nat} (t : Nat), i ≤ k → k ≤ L.length → (∀ j p, i ≤ j → j < k → L[j]? = some p → p.dst ≠ some t) → (R k).get t = (R i).get t := by
  intro i k t hik
  induction k with
  | zero => intro _ _; obtain rfl : i = 0 := by omega
            rfl
  | succ k ih =>
    intro hk hn
    by_cases h : i = k + 1
    · subst h; rfl
    · have ho := List.getElem?_eq_getElem (show k < L.length by omega)
      have hd := hn k _ (by omega) (by omega) ho
      have : ∀ v, ((R k).put L[k].dst v).get t = (R k).get t := by
        intro v
        cases hdst : L[k].dst with
        | none => rfl
        | some d =>
          simp only [Env.put, Env.get_set]
          rw [if_neg]
          intro he; subst he; exact hd hdst
      rw [← ih (by omega) (by omega) fun j p h1 h2 => hn j p h1 (by omega)]
      rcases HT.step k _ ho with ⟨_, v, _, h1⟩ | ⟨_, _, h1⟩ <;> rw [h1] <;> exact this _
structure DInv (X : Prg) (L : List Oper) (ρ0 : Env) (s0 : St) (T : Env) (s1 : St) (S : Nat → St) (φ0 : Phi) (a0 : Act) (w0 : World) (b : Nat → Bool) (a : Act) (w : World) (φ : Phi) (q : Nat) : Prop where
  cl : ∀ (j : Nat) (o : Oper), L[j]? = some o → b j = true → ∀ e ∈ o.after.toList, plainEdge e = true → b e.on = true
  qn : q ≤ L.length
  qlo : ∀ j, j < q → eff L j = true → b j = true
  qhi : ∀ j, q ≤ j → eff L j = true → b j = false
  qat : q < L.length → eff L q = true
  env1 : ∀ (j : Nat) (o : Oper) (d : Nat), L[j]? = some o → o.dst = some d → b j = true → VRel φ (T.get d) (a.tmps.getD d undef)
  env2 : ∀ t, (∀ (j : Nat) (o : Oper), L[j]? = some o → o.dst = some t → b j = false) → VRel φ (ρ0.get t) (a.tmps.getD t undef)
  tsz : a.tmps.size = a0.tmps.size
  tdf : a.defers = a0.defers
  srel : SRel X φ (G L S q) w
  fr : ∀ i, i < L.length → b i = false → Fresh φ (S i).size (S (i + 1)).size
  st : StepR φ0 φ s0 s1.size w0 w
def upb (b : Nat → Bool) (i : Nat) : Nat → Bool := fun j => if j = i then true else b j
variable {φ0 : Phi} {a0 : Act} {w0 : World}
include HC HT HS in
theorem dinv_step {n : Nat} {b : Nat → Bool} {a : Act} {w : World} {φ : Phi} {q : Nat} (hI : DInv X L ρ0 s0 T s1 S φ0 a0 w0 b a w φ q) (hf0 : Fresh φ0 s0.size s1.size) (hn : n ≤ a0.tmps.size) {i : Nat} {o : Oper} (hi : L[i]? = some o) (hb : b i = false) (hok : operOk X n o = true)
    (hready : ∀ e ∈ o.after.toList, plainEdge e = true → b e.on = true)
    {q' : Nat} (hq1 : q' ≤ L.length) (hq2 : ∀ j, j < q' → eff L j = true → upb b i j = true) (hq3 : ∀ j, q' ≤ j → eff L j = true → upb b i j = false) (hq4 : q' < L.length → eff L q' = true)
    {φ' : Phi} {v' : Value} {w' : World} (hv : ∀ d, o.dst = some d → VRel φ' (T.get d) v') (hs : SRel X φ' (G L S q') w') {s s' : St} (hst : Step φ φ' s s' w w')
    (hin : ∀ x, s.size ≤ x → x < s'.size → (S i).size ≤ x ∧ x < (S (i + 1)).size) (hm : ∀ x, isMut (s.get x) = true → isMut (s0.get x) = true ∨ (s0.size ≤ x ∧ x < s1.size)) :
    DInv X L ρ0 s0 T s1 S φ0 a0 w0 (upb b i) (a.put o.dst v') w' φ' q' := by
  have hil : i < L.length := (List.getElem?_eq_some_iff.1 hi).1
  have hdst : ∀ d, o.dst = some d → d < a.tmps.size := fun d hd => by
    unfold operOk at hok
    rw [Bool.and_eq_true] at hok
    have := hok.2
    rw [hd] at this
    have h2 : d < n := of_decide_eq_true this
    rw [hI.tsz]
    exact Nat.lt_of_lt_of_le h2 hn
  have hput : ∀ t, o.dst ≠ some t → (a.put o.dst v').tmps.getD t undef = a.tmps.getD t undef := by
    intro t ht
    cases hd : o.dst with
    | none => rfl
    | some d =>
      have hne : d ≠ t := fun h => ht (by rw [hd, h])
      simp [Act.put, Array.getElem?_setIfInBounds, hne]
  refine ⟨?_, hq1, hq2, hq3, hq4, ?_, ?_, by rw [put_size]; exact hI.tsz, by rw [put_defers]; exact hI.tdf, hs, ?_, ?_⟩
  · intro j p hj hbj e he hpe
    unfold upb at hbj ⊢
    split
    · rfl
    · split at hbj
      · rename_i hji; subst hji
        rw [hi] at hj; cases hj
        exact hready e he hpe
      · exact hI.cl j p hj hbj e he hpe
  · intro j p d hj hd hbj
    unfold upb at hbj
    split at hbj
    · rename_i hji; subst hji
      rw [hi] at hj; cases hj
      have := hdst d hd
      have e1 : (a.put o.dst v').tmps.getD d undef = v' := by rw [hd]; simp [Act.put, this]
      rw [e1]
      exact hv d hd
    · rename_i hji
      rw [hput d (HS.dst i j o p d hi hj hji hd)]
      exact (hI.env1 j p d hj hd hbj).mono hst.le
  · intro t ht
    have hne : o.dst ≠ some t := by
      intro hd
      have := ht i o hi hd
      unfold upb at this
      rw [if_pos rfl] at this
      cases this
    rw [hput t hne]
    refine (hI.env2 t fun j p hj hd => ?_).mono hst.le
    have := ht j p hj hd
    unfold upb at this
    split at this
    · cases this
    · exact this
  · intro j hj hbj
    have hji : j ≠ i := by
      intro h
      unfold upb at hbj
      rw [if_pos h] at hbj; cases hbj
    have hbj' : b j = false := by unfold upb at hbj; rwa [if_neg hji] at hbj
    have hfj := hI.fr j hj hbj'
    intro x e h1 h2
    cases hx : φ' x e with
    | none => rfl
    | some l =>
      exfalso
      rcases hst.new x e l hx with h3 | ⟨h3, h4, _⟩ | ⟨e0, l0, h3, _⟩
      · rw [hfj x e h1 h2] at h3; cases h3
      · obtain ⟨g1, g2⟩ := hin x h3 h4
        rcases Nat.lt_or_ge j i with hlt | hge
        · have := (keep_le HC HT (show j + 1 ≤ i by omega) (by omega)).1; omega
        · have := (keep_le HC HT (show i + 1 ≤ j by omega) (by omega)).1; omega
      · rw [hfj x e0 h1 h2] at h3; cases h3
  · refine hI.st.then hst hf0 (fun x h1 h2 => ?_) hm
    obtain ⟨g1, g2⟩ := hin x h1 h2
    have k1 := (keep_le HC HT (show 0 ≤ i by omega) (by omega)).1
    have k2 := (keep_le HC HT (show i + 1 ≤ L.length by omega) (Nat.le_refl _)).1
    rw [HT.s0] at k1
    rw [HT.sn] at k2
    omega
omit HC in
theorem next_eff (L : List Oper) : ∀ (m p : Nat), L.length - p = m → p ≤ L.length → ∃ q, p ≤ q ∧ q ≤ L.length ∧ (∀ j, p ≤ j → j < q → eff L j = false) ∧ (q < L.length → eff L q = true) := by
  intro m
  induction m with
  | zero => intro p hm hp; exact ⟨p, Nat.le_refl _, hp, fun j h1 h2 => by omega, fun h => by omega⟩
  | succ m ih =>
    intro p hm hp
    cases he : eff L p with
    | true => exact ⟨p, Nat.le_refl _, hp, fun j h1 h2 => by omega, fun _ => he⟩
    | false =>
      obtain ⟨q, h1, h2, h3, h4⟩ := ih (p + 1) (by omega) (by omega)
      refine ⟨q, by omega, h2, fun j h5 h6 => ?_, h4⟩
      by_cases hj : j = p
      · subst hj; exact he
      · exact h3 j (by omega) h6
omit HC in
theorem last_eff (L : List Oper) : ∀ (q p : Nat), p ≤ q → (∀ j, p ≤ j → j < q → eff L j = false) ∨ ∃ j, p ≤ j ∧ j < q ∧ eff L j = true ∧ ∀ k, j + 1 ≤ k → k < q → eff L k = false := by
  intro q
  induction q with
  | zero => intro p h; exact .inl fun j h1 h2 => by omega
  | succ q ih =>
    intro p h
    by_cases hp : p = q + 1
    · exact .inl fun j h1 h2 => by omega
    · cases he : eff L q with
      | true => exact .inr ⟨q, by omega, by omega, he, fun k h1 h2 => by omega⟩
      | false =>
        rcases ih p (by omega) with h1 | ⟨j, h1, h2, h3, h4⟩
        · refine .inl fun j h2 h3 => ?_
          by_cases hj : j = q
          · subst hj; exact he
          · exact h1 j h2 (by omega)
        · refine .inr ⟨j, h1, by omega, h3, fun k h5 h6 => ?_⟩
          by_cases hk : k = q
          · subst hk; exact he
          · exact h4 k h5 (by omega)
omit HC in
theorem srel_ext {φ φ' : Phi} {g g' : Nat → Option AObj} {s s' : St} {w w' : World} (h : SRel X φ g w) (h' : SRel X φ' s'.get w') (hst : Step φ φ' s s' w w') (hg : ∀ x, x < s.size → g x = s.get x)
    (h1 : ∀ x, x < s'.size → g' x = s'.get x) (h2 : ∀ x, s'.size ≤ x → g' x = g x) : SRel X φ' g' w' := by
  have hsz := hst.size
  have old : ∀ x e l, s'.size ≤ x → φ' x e = some l → φ x e = some l := by
    intro x e l hx hl
    rcases hst.new x e l hl with h3 | ⟨_, h4, _⟩ | ⟨e0, l0, _, h4, _⟩
    · exact h3
    · omega
    · rw [St.get_ge (by omega)] at h4; cases h4
  refine ⟨fun x e l hx o ho => ?_, h'.lt, fun b1 e1 l1 b2 e2 l2 k1 k2 hne hm => ?_⟩
  · by_cases hlt : x < s'.size
    · rw [h1 x hlt] at ho
      exact h'.obj x e l hx o ho
    · have hlt : s'.size ≤ x := by omega
      rw [h2 x hlt] at ho
      have hx0 := old x e l hlt hx
      refine (h.obj x e l hx0 o ho).world hst.le (hst.frm _ (h.lt _ _ _ hx0) fun b e' l' hb hl => ?_)
      cases hmb : isMut (s.get b) with
      | false => rfl
      | true =>
        exfalso
        have hbs : b < s.size := by
          rcases Nat.lt_or_ge b s.size with h3 | h3
          · exact h3
          · rw [St.get_ge h3] at hmb; cases hmb
        exact h.sep b e' l' x e l hb hx0 (by omega) (by rw [hg b hbs]; exact hmb) hl
  · by_cases hlt : b1 < s'.size
    · rw [h1 b1 hlt] at hm
      exact h'.sep _ _ _ _ _ _ k1 k2 hne hm
    · have hlt : s'.size ≤ b1 := by omega
      rw [h2 b1 hlt] at hm
      have k1' := old b1 e1 l1 hlt k1
      have := h.lt _ _ _ k1'
      rcases hst.new b2 e2 l2 k2 with h3 | ⟨h3, h4, h5⟩ | ⟨e0, l0, h3, h4, h5⟩
      · exact h.sep _ _ _ _ _ _ k1' h3 hne hm
      · omega
      · have := h.sep _ _ _ _ _ _ k1' h3 hne hm
        rcases h5 with h5 | h5 <;> omega
omit HC in
theorem srel_new {φ φ' : Phi} {g : Nat → Option AObj} {s : St} {o : AObj} {w w' : World} (h : SRel X φ g w) (h' : SRel X φ' (s.push o).get w') (hst : Step φ φ' s (s.push o) w w') (hn : ∀ x, s.get x = none) (hf : ∀ e, φ s.size e = none) (hg : g s.size = some o) : SRel X φ' g w' := by
  have old : ∀ x e l, x ≠ s.size → φ' x e = some l → φ x e = some l := by
    intro x e l hx hl
    rcases hst.new x e l hl with h3 | ⟨h3, h4, _⟩ | ⟨e0, l0, _, h4, _⟩
    · exact h3
    · simp only [St.size_push] at h4; omega
    · rw [hn] at h4; cases h4
  have hself : (s.push o).get s.size = some o := by rw [St.get_push, if_pos rfl]
  refine ⟨fun x e l hx o1 ho => ?_, h'.lt, fun b1 e1 l1 b2 e2 l2 k1 k2 hne hm => ?_⟩
  · by_cases hxs : x = s.size
    · subst hxs
      rw [hg] at ho
      exact h'.obj _ e l hx o1 (by rw [hself]; exact ho)
    · have hx0 := old x e l hxs hx
      exact (h.obj x e l hx0 o1 ho).world hst.le (hst.frm _ (h.lt _ _ _ hx0) fun b e' l' hb hl => by rw [hn]; rfl)
  · by_cases h1 : b1 = s.size
    · subst h1
      exact h'.sep _ _ _ _ _ _ k1 k2 hne (by rw [hself]; rw [hg] at hm; exact hm)
    · have k1' := old b1 e1 l1 h1 k1
      have := h.lt _ _ _ k1'
      by_cases h2 : b2 = s.size
      · subst h2
        rcases hst.new _ e2 l2 k2 with h3 | ⟨h3, h4, h5⟩ | ⟨e0, l0, _, h4, _⟩
        · rw [hf] at h3; cases h3
        · omega
        · rw [hn] at h4; cases h4
      · exact h.sep _ _ _ _ _ _ k1' (old b2 e2 l2 h2 k2) hne hm
end
end Go.Proofs.Yticllcglldbffaa.Ab
end
section
namespace Go.Proofs.Yticllcglldbffaa.Ab
section
variable {X : Prg} {P : Program} (H : SoundF X P) {call : Caller} (HC : CallOk X P call)
variable {L : List Oper} {ρ0 : Env} {s0 : St} {T : Env} {s1 : St} {R : Nat → Env} {S : Nat → St}
variable (HT : Tr2 call X L.toArray L ρ0 s0 T s1 (trace call X L.toArray L ρ0 s0) R S) (HS : Stat X L) (HR : readsOk X L T (trace call X L.toArray L ρ0 s0) = true)
variable {φ0 : Phi} {a0 : Act} {w0 : World}
include HS in
theorem ready_bits {b : Nat → Bool} (hc : ∀ (j : Nat) (o : Oper), L[j]? = some o → b j = true → ∀ e ∈ o.after.toList, plainEdge e = true → b e.on = true) {i : Nat} {o : Oper} (hi : L[i]? = some o)
    (hready : ∀ e ∈ o.after.toList, plainEdge e = true → b e.on = true) {j : Nat} (h : ((befs L).getD i 0).testBit j = true) : b j = true := by
  have hil : i < L.length := (List.getElem?_eq_some_iff.1 hi).1
  obtain ⟨e, he, hp, h1⟩ := befs_step hi h
  have hb := hready e he hp
  rcases h1 with h1 | ⟨h1, h2⟩
  · rw [← h1]; exact hb
  · exact bit_closed HS hc e.on j h2 (by omega) hb
include HT HS in
theorem env_at {b : Nat → Bool} {a : Act} {w : World} {φ : Phi} {q : Nat} (hI : DInv X L ρ0 s0 T s1 S φ0 a0 w0 b a w φ q) {i : Nat} {o : Oper} (hi : L[i]? = some o) (hb : b i = false)
    (hready : ∀ e ∈ o.after.toList, plainEdge e = true → b e.on = true) {t : Nat} (ht : t ∈ looks L o) : VRel φ ((R i).get t) (a.tmps.getD t undef) := by
  have hil : i < L.length := (List.getElem?_eq_some_iff.1 hi).1
  by_cases hex : ∃ (j : Nat) (p : Oper), j ≠ i ∧ L[j]? = some p ∧ p.dst = some t
  · obtain ⟨j, p, hji, hj, hd⟩ := hex
    have hjl : j < L.length := (List.getElem?_eq_some_iff.1 hj).1
    have uniq : ∀ (k : Nat) (p' : Oper), k ≠ j → L[k]? = some p' → p'.dst ≠ some t := fun k p' hk hp' => HS.dst k j p' p t hp' hj (Ne.symm hk) hd
    rcases HS.looks i j o p t hi hj hji hd ht with h1 | h1
    · have hlt := bit_lt HS i j h1 hil
      have hbj := ready_bits HS hI.cl hi hready h1
      have e1 : T.get t = (R i).get t := by
        rw [← HT.rn]
        exact R_keep HT t (by omega) (Nat.le_refl _) fun k p' h2 h3 h4 => uniq k p' (by omega) h4
      rw [← e1]
      exact hI.env1 j p t hj hd hbj
    · have hlt := bit_lt HS j i h1 hjl
      have hbj : b j = false := by
        cases h2 : b j with
        | false => rfl
        | true => rw [bit_closed HS hI.cl j i h1 hjl h2] at hb; cases hb
      have e1 : (R i).get t = ρ0.get t := by
        rw [← HT.r0]
        exact R_keep HT t (by omega) (by omega) fun k p' h2 h3 h4 => uniq k p' (by omega) h4
      rw [e1]
      refine hI.env2 t fun k p' hk hkd => ?_
      by_cases hkj : k = j
      · subst hkj; exact hbj
      · exact absurd hkd (uniq k p' hkj hk)
  · have none : ∀ (k : Nat) (p' : Oper), k ≠ i → L[k]? = some p' → p'.dst ≠ some t := fun k p' hk hp' hd => hex ⟨k, p', hk, hp', hd⟩
    have e1 : (R i).get t = ρ0.get t := by
      rw [← HT.r0]
      exact R_keep HT t (by omega) (by omega) fun k p' h2 h3 h4 => none k p' (by omega) h4
    rw [e1]
    refine hI.env2 t fun k p' hk hkd => ?_
    by_cases hki : k = i
    · subst hki; exact hb
    · exact absurd hkd (none k p' hki hk)
include HT HC in
theorem muts {i x : Nat} (hi : i ≤ L.length) (h : isMut ((S i).get x) = true) : isMut (s0.get x) = true ∨ (s0.size ≤ x ∧ x < s1.size) := by
  have k1 := keep_le HC HT (Nat.zero_le i) hi
  have k2 := keep_le HC HT hi (Nat.le_refl _)
  rw [HT.s0] at k1
  rw [HT.sn] at k2
  have hx : x < (S i).size := by
    rcases Nat.lt_or_ge x (S i).size with h1 | h1
    · exact h1
    · rw [St.get_ge h1] at h; cases h
  by_cases h0 : x < s0.size
  · left; rw [← k1.2 x h0]; exact h
  · right; have := k2.1; omega
include HT HC in
theorem G_at {p q : Nat} (hpq : p ≤ q) (hq : q ≤ L.length) (hn : ∀ j, p ≤ j → j < q → eff L j = false) {x : Nat} (hx : x < (S p).size) : G L S q x = (S p).get x := by
  have k := (keep_le HC HT hpq hq).1
  unfold G
  rw [if_pos (by omega)]
  exact quiet_get HC HT hpq hq hn x hx
theorem born {p q : Nat} (hpq : p ≤ q) (hq : q ≤ L.length) {x : Nat} (h1 : (S p).size ≤ x) (h2 : x < (S q).size) : ∃ i, p ≤ i ∧ i < q ∧ (S i).size ≤ x ∧ x < (S (i + 1)).size := by
  induction q with
  | zero => obtain rfl : p = 0 := by omega
            omega
  | succ q ih =>
    by_cases h : p = q + 1
    · subst h; omega
    · by_cases h3 : x < (S q).size
      · obtain ⟨i, g1, g2, g3⟩ := ih (by omega) (by omega) h3
        exact ⟨i, g1, by omega, g3⟩
      · exact ⟨q, by omega, by omega, by omega, h2⟩
include HT HC in
theorem G_move {p q q' : Nat} (hqp : q ≤ p) (hpq : p ≤ q') (hq : q' ≤ L.length) (hn : ∀ j, p ≤ j → j < q' → eff L j = false) {x : Nat} (hx : (S p).size ≤ x) (hqx : (S q).size ≤ x) : G L S q' x = G L S q x := by
  unfold G
  rw [if_neg (show ¬ x < (S q).size by omega)]
  split
  · rename_i hlt
    obtain ⟨i, g1, g2, g3, g4⟩ := born hpq hq hx hlt
    rw [Z_eq HC HT (by omega) g3 g4]
    exact quiet_get HC HT (show i + 1 ≤ q' by omega) hq (fun j h1 h2 => hn j (by omega) h2) x g4
  · rfl
include H HC HT HS HR in
theorem dinv_ready {n : Nat} {b : Nat → Bool} {a : Act} {w : World} {φ : Phi} {q : Nat} {Q : Exit → Act → World → Prop} (hI : DInv X L ρ0 s0 T s1 S φ0 a0 w0 b a w φ q) (hf0 : Fresh φ0 s0.size s1.size) (hg0 : GlobOk X φ0) (hn : n ≤ a0.tmps.size) {i : Nat} {o : Oper} (hi : L[i]? = some o) (hb : b i = false)
    (hok : operOk X n o = true) (hready : ∀ e ∈ o.after.toList, plainEdge e = true → b e.on = true) (K : Act → World → Prop)
    (hK : ∀ a' w' φ' q', DInv X L ρ0 s0 T s1 S φ0 a0 w0 (upb b i) a' w' φ' q' → K a' w') :
    if Region.wanted o (yielded L.toArray a.tmps) then o.wp P a w K Q else K (a.put o.dst undef) w := by
  have hil : i < L.length := (List.getElem?_eq_some_iff.1 hi).1
  have hg : GlobOk X φ := hg0.mono hI.st.le
  have hat : ∀ t, t ∈ looks L o → VRel φ ((R i).get t) (a.tmps.getD t undef) := fun t ht => env_at HT HS hI hi hb hready ht
  have hopd : ∀ x ∈ o.op.operands, VRel φ (evo (R i) x) (a.eval x) := fun x hx => by
    have hx2 : opdOk X x = true := by
      unfold operOk at hok
      rw [Bool.and_eq_true, List.all_eq_true] at hok
      exact hok.1 x (Array.mem_toList_iff.2 hx)
    cases x with
    | tmp t =>
      refine hat t ?_
      unfold looks
      rw [List.mem_append]
      left
      rw [List.mem_filterMap]
      exact ⟨.tmp t, Array.mem_toList_iff.2 hx, rfl⟩
    | const v => exact VRel.cst 4 v hx2
    | global g =>
      obtain ⟨l, h1, h2, h3⟩ := hg g hx2
      have := VRel.ptr (φ := φ) ⟨g, 0, none⟩ l h1
      rw [h2, h3] at this
      exact this
    | func f => exact .func _ _ _ _ _ .nil .nil
  have hwant : Region.wanted o (yielded L.toArray a.tmps) = wantedE L.toArray o (R i) := by
    refine wanted_rel _ _ fun j want d hgd hd => hat d ?_
    unfold looks
    rw [List.mem_append]
    right
    rw [hgd]
    simp only [List.getElem?_toArray] at hd
    simp only [hd, List.mem_singleton]
  have hdT : ∀ v, (R (i + 1)) = (R i).put o.dst v → ∀ d, o.dst = some d → T.get d = v := fun v hv d hd => by
    rw [← HT.rn, R_keep HT d (show i + 1 ≤ L.length by omega) (Nat.le_refl _) fun k p h1 h2 h3 => HS.dst k i p o d h3 hi (by omega) hd, hv, hd]
    simp [Env.put, Env.get_set]
  have weak : ∀ p, p ≤ q → (∀ j, p ≤ j → j < q → eff L j = false) → SRel X φ (S p).get w := fun p hp hnp =>
    hI.srel.weaken fun x e l _ => by
      by_cases hx : x < (S p).size
      · right; exact (G_at HC HT hp hI.qn hnp hx).symm
      · left; exact St.get_ge (by omega)
  rw [hwant]
  cases he : eff L i with
  | true =>
    -- the next of those that write or call
    have hqi : q ≤ i := by
      rcases Nat.lt_or_ge i q with h | h
      · rw [hI.qlo i h he] at hb; cases hb
      · exact h
    have hqeq : q = i := by
      rcases Nat.lt_or_ge q i with h | h
      · exfalso
        have hql : q < L.length := by omega
        have hqe := hI.qat hql
        have hqo := List.getElem?_eq_getElem hql
        have hbq := hI.qhi q (Nat.le_refl _) hqe
        rcases HS.eff i q o L[q] hi hqo (by omega) (by rw [← eff_some hi]; exact he) (by rw [← eff_some hqo]; exact hqe) with h1 | h1
        · rw [ready_bits HS hI.cl hi hready h1] at hbq; cases hbq
        · have := bit_lt HS q i h1 hql; omega
      · omega
    subst hqeq
    obtain ⟨q', g1, g2, g3, g4⟩ := next_eff L _ (q + 1) rfl (by omega)
    have hq2 : ∀ j, j < q' → eff L j = true → upb b q j = true := fun j hj hej => by
      unfold upb
      split
      · rfl
      · rename_i hne
        rcases Nat.lt_or_ge j q with h | h
        · exact hI.qlo j h hej
        · rw [g3 j (by omega) hj] at hej; cases hej
    have hq3 : ∀ j, q' ≤ j → eff L j = true → upb b q j = false := fun j hj hej => by
      unfold upb
      rw [if_neg (by omega)]
      exact hI.qhi j (by omega) hej
    have hsr := weak q (Nat.le_refl _) fun j h1 h2 => by omega
    have hG : ∀ x, x < (S q).size → G L S q x = (S q).get x := fun x hx => by unfold G; rw [if_pos hx]
    have finish : ∀ φ' v' w' v, R (q + 1) = (R q).put o.dst v → VRel φ' v v' → SRel X φ' (S (q + 1)).get w' → Step φ φ' (S q) (S (q + 1)) w w' → K (a.put o.dst v') w' := by
      intro φ' v' w' v hv hvv hs hst
      refine hK _ _ φ' q' (dinv_step HC HT HS hI hf0 hn hi hb hok hready g2 hq2 hq3 g4 (fun d hd => by rw [hdT v hv d hd]; exact hvv) ?_ hst (fun x h1 h2 => ⟨h1, h2⟩) fun x hm => muts HC HT (by omega) hm)
      have ksz := (keep_step HC HT hil).1
      refine srel_ext hI.srel hs hst hG (fun x hx => G_at HC HT g1 g2 g3 hx) fun x hx => G_move HC HT (by omega) g1 g2 g3 hx (by omega)
    rcases HT.step q o hi with ⟨hw, v, h1, h2⟩ | ⟨hw, h1, h2⟩
    · rw [if_pos hw]
      exact stepOp_sound H.toSound HC h1 hopd hg hsr (hI.fr q hil hb) K fun φ' v' w' q1 q2 q3 => finish φ' v' w' v h2 q1 q2 q3
    · rw [if_neg (by rw [hw]; simp)]
      refine finish φ undef w undef h2 (.tuple _ _ .nil) (by rw [h1]; exact hsr) (by rw [h1]; exact Step.refl _ _ _)
  | false =>
    have hq2 : ∀ j, j < q → eff L j = true → upb b i j = true := fun j hj hej => by
      unfold upb
      split
      · rfl
      · exact hI.qlo j hj hej
    have hq3 : ∀ j, q ≤ j → eff L j = true → upb b i j = false := fun j hj hej => by
      unfold upb
      rw [if_neg (by intro h; subst h; rw [he] at hej; cases hej)]
      exact hI.qhi j hj hej
    have heo : isEff o.op = false := by rw [← eff_some hi]; exact he
    rcases HT.step i o hi with ⟨hw, v, h1, h2⟩ | ⟨hw, h1, h2⟩
    · rw [if_pos hw]
      rw [stepOp_quiet heo] at h1
      rcases aop_quiet h1 heo with ⟨hnew, hsame⟩ | ⟨hnew, o2, hpush, hany⟩
      · -- it only looks
        have key : ∃ p, p ≤ q ∧ (∀ j, p ≤ j → j < q → eff L j = false) ∧ ∃ v2, aop X (evo (R i)) o.op (S p) = some (v2, S p) ∧ ∀ d, o.dst = some d → T.get d = v2 := by
          have reads : ∀ j, j < L.length → eff L j = true → ((befs L).getD i 0).testBit j = false → ((befs L).getD j 0).testBit i = false → ∀ p, (trace call X L.toArray L ρ0 s0)[if j < i then j else j + 1]? = some (R p, S p) → ∃ v2, aop X (evo (R i)) o.op (S p) = some (v2, S p) ∧ ∀ d, o.dst = some d → T.get d = v2 := by
            intro j hj hej hb1 hb2 p hp
            have hjo := List.getElem?_eq_getElem hj
            have hej2 : isEff L[j].op = true := by rw [← eff_some hjo]; exact hej
            have h4 := readsOk_use HR hi (HT.tr i (by omega)) hjo heo hnew hej2 hb1 hb2 hw
            have h5 : sameAt X T o (R i) (some (R p, S p)) = true := by
              rw [← hp]
              have e1 : (if j < i then (trace call X L.toArray L ρ0 s0)[j]? else (trace call X L.toArray L ρ0 s0)[j + 1]?) = (trace call X L.toArray L ρ0 s0)[if j < i then j else j + 1]? := by split <;> rfl
              rw [← e1]
              exact h4
            unfold sameAt at h5
            simp only at h5
            split at h5
            · rename_i v2 s2 h6
              have h7 : s2 = S p := by
                rcases aop_quiet h6 heo with ⟨_, h8⟩ | ⟨h8, _⟩
                · exact h8
                · rw [hnew] at h8; cases h8
              subst h7
              refine ⟨v2, h6, fun d hd => ?_⟩
              rw [hd] at h5
              exact (aeq_eq h5).symm
            · cases h5
          have own : ∃ v2, aop X (evo (R i)) o.op (S i) = some (v2, S i) ∧ ∀ d, o.dst = some d → T.get d = v2 := by
            rw [hsame] at h1
            exact ⟨v, h1, fun d hd => hdT v h2 d hd⟩
          rcases Nat.lt_or_ge q i with hqi | hqi
          · have hql : q < L.length := by omega
            have hqe := hI.qat hql
            have hbq := hI.qhi q (Nat.le_refl _) hqe
            refine ⟨q, Nat.le_refl _, fun j h1 h2 => by omega, reads q hql hqe ?_ ?_ q ?_⟩
            · cases h3 : ((befs L).getD i 0).testBit q with
              | false => rfl
              | true => rw [ready_bits HS hI.cl hi hready h3] at hbq; cases hbq
            · cases h3 : ((befs L).getD q 0).testBit i with
              | false => rfl
              | true => have := bit_lt HS q i h3 hql; omega
            · rw [if_pos hqi]; exact HT.tr q (by omega)
          · rcases last_eff L q i hqi with h3 | ⟨j, h3, h4, h5, h6⟩
            · exact ⟨i, hqi, h3, own⟩
            · have hji : j ≠ i := by intro h; subst h; rw [he] at h5; cases h5
              have hjl : j < L.length := by have := hI.qn; omega
              have hbj := hI.qlo j h4 h5
              refine ⟨j + 1, by omega, h6, reads j hjl h5 ?_ ?_ (j + 1) ?_⟩
              · cases h7 : ((befs L).getD i 0).testBit j with
                | false => rfl
                | true => have := bit_lt HS i j h7 hil; omega
              · cases h7 : ((befs L).getD j 0).testBit i with
                | false => rfl
                | true => rw [bit_closed HS hI.cl j i h7 hjl hbj] at hb; cases hb
              · rw [if_neg (by omega)]; exact HT.tr (j + 1) (by omega)
        obtain ⟨p, hpq, hnp, v2, hv2, hd2⟩ := key
        have hsr := weak p hpq hnp
        have hpl : p ≤ L.length := by have := hI.qn; omega
        refine stepOp_sound H.toSound HC (by rw [stepOp_quiet heo]; exact hv2) hopd hg hsr (fun x e h3 h4 => by omega) K fun φ' v' w' q1 q2 q3 => ?_
        refine hK _ _ φ' q (dinv_step HC HT HS hI hf0 hn hi hb hok hready hI.qn hq2 hq3 hI.qat (fun d hd => by rw [hd2 d hd]; exact q1) ?_ q3 (fun x h3 h4 => by omega) fun x hm => muts HC HT hpl hm)
        exact srel_ext hI.srel q2 q3 (fun x hx => G_at HC HT hpq hI.qn hnp hx) (fun x hx => G_at HC HT hpq hI.qn hnp hx) fun x _ => rfl
      · -- it makes something
        have hsz : (S (i + 1)).size = (S i).size + 1 := by rw [hpush]; rfl
        have hany2 := hany ⟨(S i).size, .nil⟩ rfl
        have hnone : ∀ x, (⟨(S i).size, .nil⟩ : St).get x = none := fun x => by unfold St.get; split <;> rfl
        have hfr := hI.fr i hil hb
        rw [hsz] at hfr
        refine stepOp_sound H.toSound HC (by rw [stepOp_quiet heo]; exact hany2) hopd hg (hI.srel.weaken fun x e l _ => .inl (hnone x)) (by simpa [St.size_push] using hfr) K fun φ' v' w' q1 q2 q3 => ?_
        refine hK _ _ φ' q (dinv_step HC HT HS hI hf0 hn hi hb hok hready hI.qn hq2 hq3 hI.qat (fun d hd => by rw [hdT v h2 d hd]; exact q1) ?_ q3 (fun x h3 h4 => by simp only [St.size_push] at h3 h4; omega) fun x hm => by rw [hnone] at hm; cases hm)
        refine srel_new hI.srel q2 q3 hnone (fun e => hfr _ e (Nat.le_refl _) (by simp)) ?_
        have hself : (S (i + 1)).get (S i).size = some o2 := by rw [hpush, St.get_push, if_pos rfl]
        show G L S q (S i).size = some o2
        have hil1 : (S i).size < (S (i + 1)).size := by omega
        by_cases hlt : (S i).size < (S q).size
        · have hiq : i + 1 ≤ q := by
            rcases Nat.lt_or_ge i q with h | h
            · omega
            · have := (keep_le HC HT h (by omega)).1; omega
          rw [G_at HC HT hiq hI.qn (fun j h3 h4 => ?_) hil1, hself]
          cases hej : eff L j with
          | false => rfl
          | true =>
            exfalso
            have hjl : j < L.length := by have := hI.qn; omega
            have hjo := List.getElem?_eq_getElem hjl
            have h5 := HS.new j i L[j] o hjo hi (by omega) (by rw [← eff_some hjo]; exact hej) hnew
            rw [bit_closed HS hI.cl j i h5 hjl (hI.qlo j h4 hej)] at hb
            cases hb
        · unfold G
          rw [if_neg hlt, Z_eq HC HT hil (Nat.le_refl _) hil1, hself]
    · rw [if_neg (by rw [hw]; simp)]
      refine hK _ _ φ q (dinv_step HC HT HS hI hf0 hn hi hb hok hready hI.qn hq2 hq3 hI.qat (fun d hd => by rw [hdT undef h2 d hd]; exact .tuple _ _ .nil) hI.srel (Step.refl φ (S i) w) (fun x h3 h4 => by omega) fun x hm => muts HC HT (by omega) hm)
end
end Go.Proofs.Yticllcglldbffaa.Ab
end
section
namespace Go.Proofs.Yticllcglldbffaa.Ab
theorem binds_any (e : Edge) : Region.binds .any e = plainEdge e := by
  unfold Region.binds plainEdge
  cases e.ground <;> rfl
section
variable {X : Prg} {P : Program} (H : SoundF X P) {call : Caller} (HC : CallOk X P call)
include H HC in
theorem draw_sound {L : List Oper} {ρ : Env} {s : St} {T : Env} {s' : St} {id : Nat} {Q : Exit → Act → World → Prop} (h : runOps call X L.toArray L ρ s = some (T, s')) (hst : statOk X L = true) (hrd : readsOk X L T (trace call X L.toArray L ρ s) = true)
    {φ : Phi} {a : Act} {w : World} {n : Nat} (ho : ∀ o ∈ L, operOk X n o = true) (hn : n ≤ a.tmps.size) (hr : EnvRel φ ρ a) (hg : GlobOk X φ) (hs : SRel X φ s.get w) (hf : Fresh φ s.size s'.size)
    (hQ : ∀ φ' a' w', EnvRel φ' T a' → a'.tmps.size = a.tmps.size → a'.defers = a.defers → SRel X φ' s'.get w' → Step φ φ' s s' w w' → Q .normal a' w') : (Code.region id L.toArray true).wp P Q a w := by
  obtain ⟨R, S, HT⟩ := trace_spec L ρ s T s' h
  have HS := stat_of hst
  refine wp_region_any H.mixed ?_
  obtain ⟨w0, hw0⟩ : ∃ w0 : World, w0 = { w with drawn := w.drawn + 1 } := ⟨_, rfl⟩
  rw [← hw0]
  have hheap : w0.heap = w.heap := by rw [hw0]
  have lim : ∀ (m : Nat) (listed : Array Bool) (a1 : Act) (w1 : World), listed.size = L.length → listed.toList.count false = m → (∃ φ1 q, DInv X L ρ s T s' S φ a w0 (fun j => listed.getD j true) a1 w1 φ1 q) → wpAny P .any L.toArray Q m listed a1 w1 := by
    intro m
    induction m with
    | zero =>
      rintro listed a1 w1 hsz hcnt ⟨φ1, q, hI⟩
      have hall : ∀ j, listed.getD j true = true := by
        intro j
        rw [List.count_eq_zero] at hcnt
        cases hj : listed[j]? with
        | none => simp [hj]
        | some x =>
          cases x with
          | true => simp [hj]
          | false =>
            exfalso
            refine hcnt (List.mem_of_getElem? (i := j) ?_)
            simpa using hj
      refine ⟨?_, ?_⟩
      · unfold Region.ready
        rw [List.filter_eq_nil_iff]
        intro i _
        rw [hall i]
        simp
      · have hq : q = L.length := by
          rcases Nat.lt_or_ge q L.length with h1 | h1
          · have := hI.qhi q (Nat.le_refl _) (hI.qat h1)
            simp only [hall q] at this; cases this
          · have := hI.qn; omega
        subst hq
        have kp : Keep s s' := by have := keep_le HC HT (Nat.zero_le _) (Nat.le_refl L.length); rwa [HT.s0, HT.sn] at this
        refine hQ φ1 a1 w1 (fun t => ?_) hI.tsz hI.tdf (hI.srel.weaken fun x e l _ => ?_) ?_
        · by_cases hex : ∃ (j : Nat) (o : Oper), L[j]? = some o ∧ o.dst = some t
          · obtain ⟨j, o, h1, h2⟩ := hex
            exact hI.env1 j o t h1 h2 (hall j)
          · have e1 : T.get t = ρ.get t := by
              rw [← HT.rn, ← HT.r0]
              exact R_keep HT t (Nat.zero_le _) (Nat.le_refl _) fun k p _ _ h3 h4 => hex ⟨k, p, h3, h4⟩
            rw [e1]
            exact hI.env2 t fun j o h1 h2 => absurd ⟨j, o, h1, h2⟩ hex
        · by_cases hx : x < s'.size
          · right
            unfold G
            rw [HT.sn, if_pos hx]
          · left; exact St.get_ge (by omega)
        · have st := hI.st
          refine ⟨kp.1, st.le, fun b e l hb => ?_, fun b hb => ?_, ?_, ?_, ?_, ?_, fun c hc hcm => ?_⟩
          · rw [← hheap]; exact st.new b e l hb
          · rcases hb with hb | hb
            · exact kp.2 b hb
            · rw [St.get_ge hb, St.get_ge (by have := kp.1; omega)]
          · rw [st.os, hw0]
          · rw [st.tape, hw0]
          · rw [st.output, hw0]
          · rw [← hheap]; exact st.wsize
          · rw [← hheap]; exact st.frm c (by rw [hheap]; exact hc) hcm
    | succ m ih =>
      rintro listed a1 w1 hsz hcnt ⟨φ1, q, hI⟩
      refine ⟨fun hnil => ?_, fun i hi => ?_⟩
      · exfalso
        have hex : ∃ i, i < L.length ∧ listed.getD i true = false := by
          have : false ∈ listed.toList := by rw [← List.count_pos_iff]; omega
          obtain ⟨i, hi, h1⟩ := List.getElem_of_mem this
          simp only [Array.length_toList] at hi
          refine ⟨i, by omega, ?_⟩
          simp only [Array.getElem_toList] at h1
          simp [hi, h1]
        have hmin : ∀ k, (∃ i, i ≤ k ∧ i < L.length ∧ listed.getD i true = false) → ∃ i, i < L.length ∧ listed.getD i true = false ∧ ∀ j, j < i → listed.getD j true = true := by
          intro k
          induction k with
          | zero => rintro ⟨i, h1, h2, h3⟩; exact ⟨i, h2, h3, fun j hj => by omega⟩
          | succ k ihk =>
            rintro ⟨i, h1, h2, h3⟩
            by_cases hlow : ∃ j, j ≤ k ∧ j < L.length ∧ listed.getD j true = false
            · exact ihk hlow
            · refine ⟨i, h2, h3, fun j hj => ?_⟩
              cases hb : listed.getD j true with
              | true => rfl
              | false => exact absurd ⟨j, by omega, by omega, hb⟩ hlow
        obtain ⟨i0, h1, h2⟩ := hex
        obtain ⟨i, hi, hb, hlow⟩ := hmin i0 ⟨i0, Nat.le_refl _, h1, h2⟩
        have hin : i ∈ Region.ready .any L.toArray listed := by
          unfold Region.ready
          rw [List.mem_filter, List.mem_range]
          have ho := List.getElem?_eq_getElem hi
          refine ⟨by simpa using hi, ?_⟩
          rw [hb]
          simp only [List.getElem?_toArray, ho, Option.map_some, Option.getD_some, Bool.not_false, Bool.true_and]
          rw [Array.all_eq_true']
          intro e he
          rw [binds_any]
          cases hp : plainEdge e with
          | false => rfl
          | true =>
            have hlt := HS.up i _ ho e (Array.mem_toList_iff.2 he) hp
            have := hlow e.on hlt
            have hsz2 : e.on < listed.size := by omega
            simpa [hsz2] using this
        rw [hnil] at hin
        cases hin
      · unfold Region.ready at hi
        rw [List.mem_filter, List.mem_range] at hi
        obtain ⟨hil, h1⟩ := hi
        have hil : i < L.length := by simpa using hil
        have hio := List.getElem?_eq_getElem hil
        rw [Bool.and_eq_true] at h1
        obtain ⟨h2, h3⟩ := h1
        have hb : listed.getD i true = false := by simpa using h2
        simp only [List.getElem?_toArray, hio, Option.map_some, Option.getD_some] at h3
        have hready : ∀ e ∈ L[i].after.toList, plainEdge e = true → (fun j => listed.getD j true) e.on = true := fun e he hp => by
          rw [Array.all_eq_true'] at h3
          have := h3 e (Array.mem_toList_iff.1 he)
          rw [binds_any, hp] at this
          have hlt := HS.up i _ hio e he hp
          have hsz2 : e.on < listed.size := by omega
          simpa [hsz2] using this
        have key := dinv_ready H HC HT HS hrd (Q := Q) hI hf hg hn hio hb (ho _ (List.mem_of_getElem? hio)) hready (wpAny P .any L.toArray Q m (listed.setIfInBounds i true)) (fun a' w' φ' q' hI' => by
          refine ih _ a' w' (by simpa using hsz) ?_ ⟨φ', q', ?_⟩
          · have hsz3 : i < listed.size := by omega
            have hli : listed.toList[i]? = some false := by
              have : listed[i]? = some false := by
                have h5 : listed[i] = false := by simpa [hsz3] using hb
                rw [Array.getElem?_eq_getElem hsz3, h5]
              simpa using this
            obtain ⟨hl, hv⟩ := List.getElem?_eq_some_iff.1 hli
            rw [Array.toList_setIfInBounds]
            have := List.count_set (a := true) (b := false) hl
            rw [this, hv, hcnt]
            simp
          · have : (fun j => (listed.setIfInBounds i true).getD j true) = upb (fun j => listed.getD j true) i := by
              funext j
              unfold upb
              by_cases hji : j = i
              · subst hji
                have hsz3 : j < listed.size := by omega
                simp [hsz3]
              · have hij : i ≠ j := fun h => hji h.symm
                simp [hji, Array.getElem?_setIfInBounds, hij]
            rw [this]
            exact hI')
        unfold wpOp
        simp only [List.getElem?_toArray, hio]
        split
        · rename_i hw
          rw [if_pos hw] at key
          exact .inl key
        · rename_i hw
          rw [if_neg hw] at key
          exact key
  have hcount : (Array.replicate L.toArray.size false).toList.count false = L.toArray.size := by simp
  refine lim L.toArray.size (Array.replicate L.toArray.size false) a w0 (by simp) hcount ?_
  obtain ⟨q, g1, g2, g3, g4⟩ := next_eff L _ 0 rfl (Nat.zero_le _)
  have bf : ∀ j, j < L.length → (Array.replicate L.toArray.size false).getD j true = false := fun j hj => by simp [hj]
  have lt : ∀ {i : Nat} {o : Oper}, L[i]? = some o → i < L.length := fun h => (List.getElem?_eq_some_iff.1 h).1
  have eff_lt : ∀ j, eff L j = true → j < L.length := fun j hj => by
    unfold eff at hj
    split at hj
    · rename_i o h1; exact lt h1
    · cases hj
  refine ⟨φ, q, fun j o hj hb => ?_, g2, fun j hj he => ?_, fun j hj he => bf j (eff_lt j he), g4, fun j o d hj hd hb => ?_, fun t _ => hr t, rfl, rfl, ?_, fun i hi _ => ?_, ?_⟩
  · simp only [bf j (lt hj)] at hb; cases hb
  · rw [g3 j (Nat.zero_le _) hj] at he; cases he
  · simp only [bf j (lt hj)] at hb; cases hb
  · refine (hs.heap hheap).weaken fun x e l hx => ?_
    by_cases h1 : x < s.size
    · right
      have := G_at HC HT g1 g2 g3 (x := x) (by rw [HT.s0]; exact h1)
      rw [this, HT.s0]
    · by_cases h2 : x < s'.size
      · rw [hf x e (by omega) h2] at hx; cases hx
      · left
        have hq := (keep_le HC HT g2 (Nat.le_refl _)).1
        rw [HT.sn] at hq
        unfold G
        rw [if_neg (by omega)]
        unfold Z
        rw [dif_neg]
        rintro ⟨i, hi, h3, h4⟩
        have := (keep_le HC HT (show i + 1 ≤ L.length by omega) (Nat.le_refl _)).1
        rw [HT.sn] at this
        omega
  · have k1 := (keep_le HC HT (Nat.zero_le i) (by omega)).1
    have k2 := (keep_le HC HT (show i + 1 ≤ L.length by omega) (Nat.le_refl _)).1
    rw [HT.s0] at k1
    rw [HT.sn] at k2
    exact hf.sub k1 k2
  · exact ⟨fun _ _ _ h => h, fun _ _ _ h => .inl h, rfl, rfl, rfl, Nat.le_refl _, fun _ _ _ => rfl⟩
include H HC in
theorem region_sound {L : List Oper} {draw : Bool} {ρ : Env} {s : St} {T : Env} {s' : St} {id : Nat} {Q : Exit → Act → World → Prop} (h : region call X L draw ρ s = some (T, s'))
    {φ : Phi} {a : Act} {w : World} {n : Nat} (ho : ∀ o ∈ L, operOk X n o = true) (hst : draw = true → statOk X L = true) (hn : n ≤ a.tmps.size) (hr : EnvRel φ ρ a) (hg : GlobOk X φ) (hs : SRel X φ s.get w) (hf : Fresh φ s.size s'.size)
    (hQ : ∀ φ' a' w', EnvRel φ' T a' → a'.tmps.size = a.tmps.size → a'.defers = a.defers → SRel X φ' s'.get w' → Step φ φ' s s' w w' → Q .normal a' w') : (Code.region id L.toArray draw).wp P Q a w := by
  unfold region at h
  split at h
  · cases h
  · rename_i T2 s2 hrun
    split at h
    · rename_i hd
      subst hd
      split at h
      · rename_i hc
        cases h
        exact draw_sound H HC hrun (hst rfl) hc ho hn hr hg hs hf hQ
      · cases h
    · rename_i hd
      obtain rfl : draw = false := by simpa using hd
      cases h
      exact wp_region_lit (runOps_sound H.toSound HC L ρ s φ a w _ _ hrun ho hn hr hg hs hf hQ)
include HC in
theorem region_keep {L : List Oper} {draw : Bool} {ρ : Env} {s : St} {T : Env} {s' : St} (h : region call X L draw ρ s = some (T, s')) : Keep s s' := by
  unfold region at h
  split at h
  · cases h
  · rename_i T2 s2 hrun
    have := runOps_keep HC _ _ _ _ _ hrun
    split at h
    · split at h
      · cases h; exact this
      · cases h
    · cases h; exact this
end
end Go.Proofs.Yticllcglldbffaa.Ab
end
section
namespace Go.Proofs.Yticllcglldbffaa.Ab
theorem find_same {fn : Func} (h : isSame fn = true) : Extern.findNext fn = none ∧ Extern.find fn = some Extern.AbiNoEscape.same := by
  unfold isSame at h
  rw [Bool.and_eq_true, beq_iff_eq, beq_iff_eq] at h
  have e1 : Extern.allGenericRows.lookup "internal/abi.NoEscape" = none := by kernel_rfl
  have e2 : Extern.allTypedRows.lookup "internal/abi.NoEscape" = none := by kernel_rfl
  have e3 : Extern.allRows.lookup "internal/abi.NoEscape" = some Extern.AbiNoEscape.same := by kernel_rfl
  have e4 : Extern.allNextRows.lookup "internal/abi.NoEscape" = none := by kernel_rfl
  have e5 : Extern.allNextRows.lookup "" = none := by kernel_rfl
  constructor
  · unfold Extern.findNext; simp only [h.1, h.2, e4, e5]; rfl
  · unfold Extern.find; simp only [h.1, h.2, e1, e2, e3]; rfl
theorem find_noZero {fn : Func} (h : isNoZero fn = true) : Extern.findNext fn = none ∧ Extern.find fn = some (Extern.BytealgMakeNoZero.makeNoZero fn.params fn.resultTypes) := by
  unfold isNoZero at h
  rw [Bool.and_eq_true, beq_iff_eq, beq_iff_eq] at h
  have e1 : Extern.allGenericRows.lookup "internal/bytealg.MakeNoZero" = none := by kernel_rfl
  have e2 : Extern.allTypedRows.lookup "internal/bytealg.MakeNoZero" = some Extern.BytealgMakeNoZero.makeNoZero := by kernel_rfl
  have e4 : Extern.allNextRows.lookup "internal/bytealg.MakeNoZero" = none := by kernel_rfl
  have e5 : Extern.allNextRows.lookup "" = none := by kernel_rfl
  constructor
  · unfold Extern.findNext; simp only [h.1, h.2, e4, e5]; rfl
  · unfold Extern.find; simp only [h.1, h.2, e1, e2]; rfl
theorem find_byteAt {fn : Func} (h : isByteAt fn = true) : Extern.findNext fn = none ∧ Extern.find fn = some Extern.BytealgIndexByte.indexByte := by
  unfold isByteAt at h
  rw [Bool.and_eq_true, beq_iff_eq, beq_iff_eq] at h
  have e1 : Extern.allGenericRows.lookup "internal/bytealg.IndexByteString" = none := by kernel_rfl
  have e2 : Extern.allTypedRows.lookup "internal/bytealg.IndexByteString" = none := by kernel_rfl
  have e3 : Extern.allRows.lookup "internal/bytealg.IndexByteString" = some Extern.BytealgIndexByte.indexByte := by kernel_rfl
  have e4 : Extern.allNextRows.lookup "internal/bytealg.IndexByteString" = none := by kernel_rfl
  have e5 : Extern.allNextRows.lookup "" = none := by kernel_rfl
  constructor
  · unfold Extern.findNext; simp only [h.1, h.2, e4, e5]; rfl
  · unfold Extern.find; simp only [h.1, h.2, e1, e2, e3]; rfl
theorem find_count {fn : Func} (h : isCount fn = true) : Extern.findNext fn = none ∧ Extern.find fn = some Extern.BytealgCount.count := by
  unfold isCount at h
  rw [Bool.and_eq_true, beq_iff_eq, beq_iff_eq] at h
  have e1 : Extern.allGenericRows.lookup "internal/bytealg.CountString" = none := by kernel_rfl
  have e2 : Extern.allTypedRows.lookup "internal/bytealg.CountString" = none := by kernel_rfl
  have e3 : Extern.allRows.lookup "internal/bytealg.CountString" = some Extern.BytealgCount.count := by kernel_rfl
  have e4 : Extern.allNextRows.lookup "internal/bytealg.CountString" = none := by kernel_rfl
  have e5 : Extern.allNextRows.lookup "" = none := by kernel_rfl
  constructor
  · unfold Extern.findNext; simp only [h.1, h.2, e4, e5]; rfl
  · unfold Extern.find; simp only [h.1, h.2, e1, e2, e3]; rfl
theorem find_cmp {fn : Func} (h : isCmp fn = true) : Extern.findNext fn = none ∧ Extern.find fn = some Extern.BytealgCompare.compare := by
  unfold isCmp at h
  rw [Bool.and_eq_true, beq_iff_eq, beq_iff_eq] at h
  have e1 : Extern.allGenericRows.lookup "internal/bytealg.abigen_runtime_cmpstring" = none := by kernel_rfl
  have e2 : Extern.allTypedRows.lookup "internal/bytealg.abigen_runtime_cmpstring" = none := by kernel_rfl
  have e3 : Extern.allRows.lookup "internal/bytealg.abigen_runtime_cmpstring" = some Extern.BytealgCompare.compare := by kernel_rfl
  have e4 : Extern.allNextRows.lookup "internal/bytealg.abigen_runtime_cmpstring" = none := by kernel_rfl
  have e5 : Extern.allNextRows.lookup "" = none := by kernel_rfl
  constructor
  · unfold Extern.findNext; simp only [h.1, h.2, e4, e5]; rfl
  · unfold Extern.find; simp only [h.1, h.2, e1, e2, e3]; rfl
section
variable {X : Prg} {P : Program} (H : SoundF X P)
include H
theorem entry_ok {f : Nat} {fn : Func} {args : List Value} {s : St} {v : Value} {s' : St} (hfn : X.fn f = some fn) (hb : fn.body = none) (h : entry X fn args s = some (v, s')) : Keep s s' ∧ EntryRel X P f args s v s' := by
  have hP := H.fn f fn hfn
  have hN := H.name f fn hfn
  have hB : fn.body.isNone = true := by rw [hb]; rfl
  unfold entry at h
  split at h
  · rename_i hsame
    obtain ⟨k1, k2⟩ := find_same hsame
    split at h
    · cases h
      refine ⟨Keep.refl _, fun φ args' w hargs hs hf => ?_⟩
      obtain ⟨l'⟩ := args'
      cases hargs with | cons x x' l l' hx hr =>
      cases hr
      refine ⟨φ, x', w, ?_, hx, hs, Step.refl _ _ _⟩
      rw [run_callFunc_extern hP hN hB k1 k2]
      rfl
    · cases h
  · split at h
    · rename_i hnz
      obtain ⟨k1, k2⟩ := find_noZero hnz
      split at h
      · rename_i n t hrt
        split at h
        · rename_i e hu
          split at h
          · rename_i hue
            split at h
            · rename_i hc
              cases h
              refine ⟨Keep.push _ _, fun φ args' w hargs hs hf => ?_⟩
              obtain ⟨l'⟩ := args'
              cases hargs with | cons x x' l l' hx hr =>
              cases hr
              cases hx
              have hPt : P.underlying t = some (.slice e) := by
                unfold Prg.und at hu
                split at hu
                · rename_i ty ht; simp only [Option.some.injEq] at hu; rw [← hu]; exact H.und _ _ ht
                · cases hu
              obtain ⟨te, hte, hte2⟩ : ∃ te, X.ty e = some te ∧ te.und = .int .u8 := by
                unfold Prg.und at hue
                split at hue
                · rename_i te hte; simp only [Option.some.injEq] at hue; exact ⟨te, hte, hue⟩
                · cases hue
              have hsz : te.size = 1 := (H.zero _ _ hte).2.2 (by unfold Ty.agg; rw [hte2])
              have hroom := hc.2
              unfold roomOk at hroom
              simp only [Bool.and_eq_true, decide_eq_true_eq] at hroom
              obtain ⟨cs, r1, r2, r3⟩ := Lib.run_makeNoZero (P := P) w fn.params t e hPt n.toNat (by omega)
              obtain ⟨q1, q2⟩ := new_row (str := false) hs hte (by simpa [St.size_push] using hf) (.nil : VRels φ [] []) (rest := cs.toList) (fr := (0, 0)) (w' := w.drew.drew.alloc (.cells cs e))
                (by rw [show (([] : List Value) ++ cs.toList).toArray = cs by simp]; rfl) (fun _ => rfl) rfl rfl rfl
              have hres : fn.resultTypes = #[t] := Array.ext' hrt
              have en : ((n.toNat : Nat) : Int) = n := by omega
              rw [en] at r1
              refine ⟨_, .slice (some ⟨w.heap.size, 0, none⟩) n.toNat cs.size, _, ?_, ?_, q1, q2⟩
              · rw [run_callFunc_extern hP hN hB k1 k2, hres, r1]
                rfl
              · refine VRel.slice ⟨s.size, 0, none⟩ _ _ _ _ _ (Phi.ext_same _ _ _ _) (.inl rfl) r2 ?_ ?_ ?_
                · unfold capO; intro; omega
                · unfold capO; omega
                · intro _ _
                  simp only [hsz, Array.length_toList, List.length_nil]
                  omega
            · cases h
          · cases h
        · cases h
      · cases h
    · split at h
      · rename_i hba
        obtain ⟨k1, k2⟩ := find_byteAt hba
        split at h
        · cases h
          refine ⟨Keep.refl _, fun φ args' w hargs hs hf => ?_⟩
          obtain ⟨l'⟩ := args'
          cases hargs with | cons x x' l l' hx hr =>
          cases hr with | cons y y' m m' hy hr2 =>
          cases hr2
          cases hx
          cases hy
          refine ⟨φ, _, w, ?_, .int _ _, hs, Step.refl _ _ _⟩
          rw [run_callFunc_extern hP hN hB k1 k2, run_indexByte_string]
          rfl
        · cases h
      · split at h
        · rename_i hba
          obtain ⟨k1, k2⟩ := find_count hba
          split at h
          · cases h
            refine ⟨Keep.refl _, fun φ args' w hargs hs hf => ?_⟩
            obtain ⟨l'⟩ := args'
            cases hargs with | cons x x' l l' hx hr =>
            cases hr with | cons y y' m m' hy hr2 =>
            cases hr2
            cases hx
            cases hy
            refine ⟨φ, _, w, ?_, .int _ _, hs, Step.refl _ _ _⟩
            rw [run_callFunc_extern hP hN hB k1 k2, Lib.run_countString]
            rfl
          · cases h
        · split at h
          · rename_i hba
            obtain ⟨k1, k2⟩ := find_cmp hba
            split at h
            · cases h
              refine ⟨Keep.refl _, fun φ args' w hargs hs hf => ?_⟩
              obtain ⟨l'⟩ := args'
              cases hargs with | cons x x' l l' hx hr =>
              cases hr with | cons y y' m m' hy hr2 =>
              cases hr2
              cases hx
              cases hy
              refine ⟨φ, _, w, ?_, .int _ _, hs, Step.refl _ _ _⟩
              rw [run_callFunc_extern hP hN hB k1 k2, Lib.run_compareString]
              rfl
            · cases h
          · cases h
end
end Go.Proofs.Yticllcglldbffaa.Ab
end
section
namespace Go.Proofs.Yticllcglldbffaa.Ab
def toExit : Xit → Exit
  | .normal => .normal
  | .exit id => .exit id
  | .goto l => .goto l
  | .ret => .ret
def ExOk (X : Prg) (P : Program) (ex : Code → Env → St → Option (Xit × Env × St)) : Prop :=
  ∀ c ρ s e ρ' s', ex c ρ s = some (e, ρ', s') → Keep s s' ∧ ∀ (φ : Phi) (a : Act) (w : World) (Q : Exit → Act → World → Prop), codeOk X a.tmps.size c = true → EnvRel φ ρ a → GlobOk X φ → SRel X φ s.get w → Fresh φ s.size s'.size →
    (∀ φ' a' w', EnvRel φ' ρ' a' → a'.tmps.size = a.tmps.size → a'.defers = a.defers → SRel X φ' s'.get w' → Step φ φ' s s' w w' → Q (toExit e) a' w') → c.wp P Q a w
theorem fill_get : ∀ (l : List Value) (i : Nat) (ρ : Env) (t : Nat), (Env.fill i l ρ).get t = if i ≤ t ∧ t < i + l.length then l.getD (t - i) undef else ρ.get t
  | [], i, ρ, t => by simp only [Env.fill, List.length_nil]; rw [if_neg (by omega)]
  | v :: l, i, ρ, t => by
    simp only [Env.fill, List.length_cons]
    rw [fill_get l (i + 1) (ρ.set i v) t, Env.get_set]
    by_cases h : i = t
    · subst h
      rw [if_neg (by omega), if_pos rfl, if_pos (by omega)]
      simp
    · by_cases h1 : i + 1 ≤ t ∧ t < i + 1 + l.length
      · rw [if_pos h1, if_pos (by omega)]
        have : t - i = (t - (i + 1)) + 1 := by omega
        rw [this]; simp
      · rw [if_neg h1, if_neg h, if_neg (by omega)]
theorem of_get (l : List Value) (t : Nat) : (Env.of l).get t = l.getD t undef := by
  unfold Env.of
  rw [fill_get]
  split
  · simp
  · rename_i h
    rw [List.getD_eq_getElem?_getD, List.getElem?_eq_none (by omega)]
    rfl
section
variable {X : Prg} {P : Program} (H : SoundF X P)
include H in
theorem results_run {φ : Phi} {ρ : Env} {a : Act} {s : St} {w : World} {fn : Func} {vs : List Value} (h : resvs X ρ s fn.results.toList = some vs) (hr : EnvRel φ ρ a) (hs : SRel X φ s.get w) : ∃ v', (results fn a.tmps).run P w = .ok v' w ∧ VRel φ (tupv vs) v' := by
  have key : ∀ (g : ResultVar → Sem Value), (∀ t, g (.tmp t) = pure (a.tmps.getD t undef)) → (∀ q t, g (.cell q t) = (do loadVar t (← asAddr (a.tmps.getD q undef)) : Sem Value)) →
      ∀ (rs : List ResultVar) (vs : List Value), resvs X ρ s rs = some vs → ∃ vs', (rs.mapM g).run P w = .ok vs' w ∧ VRels φ vs vs' := by
    intro g hg1 hg2 rs
    induction rs with
    | nil => intro vs h; simp only [resvs, Option.some.injEq] at h; subst h; exact ⟨[], rfl, .nil⟩
    | cons r rs ih =>
      intro vs h
      simp only [resvs] at h
      split at h
      · rename_i v vs2 hv hvs
        cases h
        obtain ⟨vs', h1, h2⟩ := ih _ hvs
        cases r with
        | tmp t =>
          simp only [resv, Option.some.injEq] at hv
          subst hv
          refine ⟨a.tmps.getD t undef :: vs', ?_, .cons _ _ _ _ (hr t) h2⟩
          simp only [List.mapM_cons, hg1, Sem.run_bind, Sem.run_pure, Result.andThen_ok, h1]
        | cell q t =>
          simp only [resv] at hv
          obtain ⟨u', h3, h4⟩ := loadv_run H.toSound hv (hr q) hs
          refine ⟨u' :: vs', ?_, .cons _ _ _ _ h4 h2⟩
          have h5 : (do loadVar t (← asAddr (a.tmps.getD q undef)) : Sem Value).run P w = .ok u' w := by
            have := hr q
            generalize a.tmps.getD q undef = p at this h3
            unfold loadv at hv
            split at hv
            · rename_i ty ad _ hty hp
              rw [hp] at this
              cases this with | ptr a l hl =>
              simpa [Instr.loadAt, Instr.sureAddr, asAddr] using h3
            · cases hv
          simp only [Sem.run_bind] at h5
          simp only [List.mapM_cons, hg2, Sem.run_bind, h5, Sem.run_pure, Result.andThen_ok, h1]
      · cases h
  unfold results
  simp only [Sem.run_bind]
  rw [Array.mapM_eq_mapM_toList]
  simp only [Sem.run_map]
  obtain ⟨vs', h1, h2⟩ := key (fun x => match x with
      | ResultVar.tmp t => pure (a.tmps.getD t undef)
      | ResultVar.cell q t => do
        let p ← asAddr (a.tmps.getD q undef)
        loadVar t p) (fun _ => rfl) (fun _ _ => rfl) _ _ h
  have h1' : ∀ g : ResultVar → Sem Value, (∀ t, g (.tmp t) = pure (a.tmps.getD t undef)) → (∀ q t, g (.cell q t) = (do loadVar t (← asAddr (a.tmps.getD q undef)) : Sem Value)) → (fn.results.toList.mapM g).run P w = .ok vs' w := by
    intro g hg1 hg2
    rw [← h1]
    congr 2
    funext x
    cases x with
    | tmp t => exact hg1 t
    | cell q t => exact hg2 q t
  rw [h1' _ (fun _ => rfl) (fun _ _ => rfl)]
  simp only [Result.andThen_ok, Sem.run_pure]
  have hlen := h2.length
  cases h2 with
  | nil => exact ⟨_, rfl, .tuple _ _ .nil⟩
  | cons v v' l l' hv hl =>
    cases hl with
    | nil => exact ⟨v', rfl, hv⟩
    | cons u u' m m' hu hm => exact ⟨_, rfl, .tuple _ _ (.cons _ _ _ _ hv (.cons _ _ _ _ hu hm))⟩
theorem plainEq_eq {a b : Value} (h : plainEq a b = true) : a = b ∧ plainV b = true := by
  cases a <;> cases b <;> simp [plainEq] at h
  · subst h; exact ⟨rfl, rfl⟩
  · obtain ⟨rfl, rfl⟩ := h; exact ⟨rfl, rfl⟩
  · rename_i x y
    refine ⟨?_, rfl⟩
    cases x; cases y
    simp at h
    rw [h]
theorem plainEqs_eq : ∀ {a b : List Value}, plainEqs a b = true → a = b ∧ ∀ v ∈ b, plainV v = true
  | [], [], _ => ⟨rfl, fun v hv => by cases hv⟩
  | x :: xs, y :: ys, h => by
    simp only [plainEqs, Bool.and_eq_true] at h
    obtain ⟨e1, h1⟩ := plainEq_eq h.1
    obtain ⟨e2, h2⟩ := plainEqs_eq h.2
    refine ⟨by rw [e1, e2], fun v hv => ?_⟩
    rcases List.mem_cons.1 hv with rfl | hv
    · exact h1
    · exact h2 v hv
  | [], _ :: _, h => by simp [plainEqs] at h
  | _ :: _, [], h => by simp [plainEqs] at h
theorem laidIn_of {X : Prg} {φ : Phi} {s : St} {w : World} (h : laidOk X s = true) (hg : GlobOk X φ) (hs : SRel X φ s.get w) : LaidIn X.laid w := by
  intro p hp
  have h1 := List.all_eq_true.1 h p hp
  obtain ⟨l, h2, h3, h4⟩ := hg p.1 (List.any_eq_true.2 ⟨p, hp, by simp⟩)
  refine ⟨h3 ▸ hs.lt _ _ _ h2, fun i v hv => ?_⟩
  split at h1
  · rename_i c hc
    obtain ⟨rfl, h5⟩ := plainEqs_eq h1
    obtain ⟨v', h6, h7⟩ := hs.obj _ _ _ h2 _ hc rfl i v hv
    rw [h3, h4, Nat.zero_add] at h6
    have h8 := h5 v (List.mem_of_getElem? hv)
    rw [h6]
    cases h7 <;> first | rfl | (simp [plainV] at h8; done)
  · cases h1
theorem plain_same {φ : Phi} : ∀ {l l' : List Value}, VRels φ l l' → l.all plainV = true → l' = l
  | _, _, .nil, _ => rfl
  | _, _, .cons v v' l l' h1 h2, h => by
    simp only [List.all_cons, Bool.and_eq_true] at h
    rw [plain_same h2 h.2]
    cases h1 <;> first | rfl | (simp [plainV] at h; done)
theorem SRel.grow {φ : Phi} {g : Nat → Option AObj} {w w' : World} (h : SRel X φ g w) (k : Grow w w') : SRel X φ g w' :=
  ⟨fun b e l hb o ho => (h.obj b e l hb o ho).world (fun _ _ _ h => h) (k.2.2.2.2 _ (h.lt _ _ _ hb)), fun b e l hb => Nat.lt_of_lt_of_le (h.lt b e l hb) k.2.2.2.1, h.sep⟩
theorem Step.grow {φ : Phi} {s : St} {w w' : World} (k : Grow w w') : Step φ φ s s w w' :=
  ⟨Nat.le_refl _, fun _ _ _ h => h, fun _ _ _ h => .inl h, fun _ _ => rfl, k.1, k.2.1, k.2.2.1, k.2.2.2.1, fun c hc _ => k.2.2.2.2 c hc⟩
include H in
theorem enter_all {ex : Code → Env → St → Option (Xit × Env × St)} (hex : ExOk X P ex) {f : Nat} {args : List Value} {s : St} {v : Value} {s' : St} (h : enter ex X f args s = some (v, s')) :
    Keep s s' ∧ ((Bodied P f ∧ CallRel X P f args s v s') ∨ (EntryRel X P f args s v s' ∧ ∃ fn, X.fn f = some fn ∧ fn.body = none)) := by
  unfold enter at h
  split at h
  · rename_i u hkn
    split at h
    · rename_i hcond; cases h
      rw [Bool.and_eq_true, Bool.and_eq_true] at hcond
      obtain ⟨hfn, hcall⟩ := H.knows f args _ hkn hcond.1
      refine ⟨Keep.refl _, .inl ⟨hfn, fun φ args' w hargs hg hs hf => ?_⟩⟩
      have he : args' = args.toArray := by
        have := plain_same hargs hcond.1
        rw [← this]
      subst he
      refine (hcall w (laidIn_of hcond.2.2 hg hs)).mono ?_
      rintro e w' ⟨rfl, g⟩
      exact ⟨φ, _, rfl, VRel.cst 4 _ hcond.2.1, hs.grow g, Step.grow g⟩
    · cases h
  split at h
  · cases h
  · rename_i fn hfn
    split at h
    · rename_i hnone
      have := entry_ok H hfn hnone h
      exact ⟨this.1, .inr ⟨this.2, fn, hfn, hnone⟩⟩
    · rename_i c hc
      split at h
      · rename_i hlen
        have fin : ∀ e ρ2 s2, ex c (Env.of args) s = some (e, ρ2, s2) → (e = .normal ∨ e = .ret) → (resvs X ρ2 s2 fn.results.toList).map (fun vs => (tupv vs, s2)) = some (v, s') → Keep s s' ∧ ((Bodied P f ∧ CallRel X P f args s v s') ∨ (EntryRel X P f args s v s' ∧ ∃ fn, X.fn f = some fn ∧ fn.body = none)) := by
          intro e ρ2 s2 h1 he h2
          simp only [Option.map_eq_some_iff, Prod.mk.injEq] at h2
          obtain ⟨vs, hvs, rfl, rfl⟩ := h2
          obtain ⟨hk, hrun⟩ := hex _ _ _ _ _ _ h1
          refine ⟨hk, .inl ⟨⟨fn, H.fn f fn hfn, by rw [hc]; rfl, H.name f fn hfn⟩, fun φ args' w hargs hg hs hf => ?_⟩⟩
          have hl2 := hargs.length
          simp only [Array.length_toList] at hl2
          refine calls_of_wp (H.fn f fn hfn) hc (hrun φ _ w _ ?_ (fun t => ?_) hg hs hf fun φ' a' w' q1 q2 q3 q4 q5 => ?_)
          · have : (args' ++ Array.replicate (fn.ntmps - args'.size) undef).size = fn.ntmps := by simp; omega
            rw [this]
            exact H.code f fn c hfn hc
          · rw [of_get]
            by_cases ht : t < args.length
            · obtain ⟨v', g1, g2⟩ := hargs.get t args[t] (List.getElem?_eq_getElem ht)
              have g3 : args'[t]? = some v' := by simpa using g1
              have e1 : args.getD t undef = args[t] := by simp [ht]
              have e2 : (args' ++ Array.replicate (fn.ntmps - args'.size) undef).getD t undef = v' := by
                rw [Array.getD_eq_getD_getElem?, Array.getElem?_append_left (by omega), g3]; rfl
              rw [e1, e2]; exact g2
            · have e1 : args.getD t undef = undef := by rw [List.getD_eq_getElem?_getD, List.getElem?_eq_none (by omega)]; rfl
              have e2 : (args' ++ Array.replicate (fn.ntmps - args'.size) undef).getD t undef = undef := by
                rw [Array.getD_eq_getD_getElem?, Array.getElem?_append_right (by omega)]
                rw [Array.getElem?_replicate]
                split <;> rfl
              rw [e1]
              simp only [e2]
              exact .tuple _ _ .nil
          · obtain ⟨v', g1, g2⟩ := results_run H (fn := fn) hvs q1 q4
            have : bodyPost P fn (fun e w' => ∃ φ' v', e = .returned v' ∧ VRel φ' (tupv vs) v' ∧ SRel X φ' s2.get w' ∧ Step φ φ' s s2 w w') (toExit e) a' w' := by
              rcases he with rfl | rfl
              · exact ⟨q3, v', g1, φ', v', rfl, g2, q4, q5⟩
              · exact ⟨q3, v', g1, φ', v', rfl, g2, q4, q5⟩
            exact this
        split at h
        · rename_i ρ2 s2 h1; exact fin _ _ _ h1 (.inl rfl) h
        · rename_i ρ2 s2 h1; exact fin _ _ _ h1 (.inr rfl) h
        · cases h
      · cases h
include H in
theorem enter_ok {ex : Code → Env → St → Option (Xit × Env × St)} (hex : ExOk X P ex) : CallOk X P (enter ex X) := fun f args s v s' h => by
  obtain ⟨h1, h2⟩ := enter_all H hex h
  exact ⟨h1, h2.imp id fun h => h.1⟩
def Prg.bodied (X : Prg) (f : Nat) : Bool := match X.fn f with
  | some fn => fn.body.isSome
  | none => true
include H in
theorem enter_body {ex : Code → Env → St → Option (Xit × Env × St)} (hex : ExOk X P ex) {f : Nat} (hb : X.bodied f = true) {args : List Value} {s : St} {v : Value} {s' : St} (h : enter ex X f args s = some (v, s')) :
    Bodied P f ∧ CallRel X P f args s v s' := by
  rcases (enter_all H hex h).2 with h | ⟨_, fn, h1, h2⟩
  · exact h
  · unfold Prg.bodied at hb; rw [h1] at hb; simp only [h2] at hb; cases hb
def InScope (P : Program) (body c : Code) (Q : Exit → Act → World → Prop) (a : Act) (w : World) : Prop :=
  ∀ (b : Frame) (k : List Item) (cs : List Frame), ∃ e a' w', Q e a' w' ∧ Arrives P (lone (b.at a (.code c :: .inScope body :: k)) cs w) b k cs e a' w'
theorem inScope_of {body c : Code} {Q : Exit → Act → World → Prop} {a : Act} {w : World}
    (h : c.wp P (fun e a w => match e with | .goto l => (match findLabel body l with | some r => InScope P body r Q a w | none => Q (.goto l) a w) | e => Q e a w) a w) : InScope P body c Q a w := by
  intro b k cs
  obtain ⟨e, a1, w1, hq, harr⟩ := h b (.inScope body :: k) cs
  cases e with
  | normal => exact ⟨.normal, a1, w1, hq, Steps.trans harr (.one step_inScope)⟩
  | exit id => exact ⟨.exit id, a1, w1, hq, fun k' hk => harr k' (by simp [exitTo, hk])⟩
  | goto l =>
    simp only at hq
    split at hq
    · rename_i r hr
      obtain ⟨e2, a2, w2, hq2, harr2⟩ := hq b k cs
      refine ⟨e2, a2, w2, hq2, .of_steps (harr _ ?_) harr2⟩
      simp [gotoIn, hr]
    · rename_i hr
      exact ⟨.goto l, a1, w1, hq, fun k' hk => harr k' (by simp [gotoIn, hr, hk])⟩
  | ret => exact ⟨.ret, a1, w1, hq, harr⟩
  | panic ch => exact ⟨.panic ch, a1, w1, hq, harr⟩
  | outgrown => exact ⟨.outgrown, a1, w1, hq, harr⟩
theorem wp_scope_in {c : Code} {Q : Exit → Act → World → Prop} {a : Act} {w : World} (h : InScope P c c Q a w) : (Code.scope c).wp P Q a w := by
  intro b k cs
  obtain ⟨e, a1, w1, hq, harr⟩ := h b k cs
  exact ⟨e, a1, w1, hq, .of_steps (.one step_scope) harr⟩
theorem label_ok {n : Nat} : ∀ {c r : Code} {l : Nat}, codeOk X n c = true → findLabel c l = some r → codeOk X n r = true
  | .seq a b, r, l, hc, h => by
    simp only [codeOk, Bool.and_eq_true] at hc
    unfold findLabel at h
    split at h
    · rename_i rest hr
      cases h
      simp only [codeOk, Bool.and_eq_true]
      exact ⟨label_ok hc.1 hr, hc.2⟩
    · exact label_ok hc.2 h
  | .label l', r, l, hc, h => by
    unfold findLabel at h
    split at h
    · cases h; rfl
    · cases h
  | .skip, _, _, _, h | .region _ _ _, _, _, _, h | .cond _ _ _, _, _, _, h | .block _ _, _, _, _, h | .loop _, _, _, _, h | .rangeFunc _ _ _ _, _, _, _, h | .exit _, _, _, _, h | .scope _, _, _, _, h | .goto _, _, _, _, h | .ret, _, _, _, h | .refuse _, _, _, _, h => by
    simp [findLabel] at h
include H in
theorem exec_all : ∀ n, ExOk X P (exec X n) ∧
    (∀ c ρ s e ρ' s', exec X n (.loop c) ρ s = some (e, ρ', s') → ∀ (φ : Phi) (a : Act) (w : World) (Q : Exit → Act → World → Prop), codeOk X a.tmps.size c = true → EnvRel φ ρ a → GlobOk X φ → SRel X φ s.get w → Fresh φ s.size s'.size →
      (∀ φ' a' w', EnvRel φ' ρ' a' → a'.tmps.size = a.tmps.size → a'.defers = a.defers → SRel X φ' s'.get w' → Step φ φ' s s' w w' → Q (toExit e) a' w') → Code.rounds P c Q n a w) ∧
    (∀ whole c ρ s e ρ' s', exec.jump X n whole c ρ s = some (e, ρ', s') → Keep s s' ∧ ∀ (φ : Phi) (a : Act) (w : World) (Q : Exit → Act → World → Prop), codeOk X a.tmps.size c = true → codeOk X a.tmps.size whole = true → EnvRel φ ρ a → GlobOk X φ → SRel X φ s.get w → Fresh φ s.size s'.size →
      (∀ φ' a' w', EnvRel φ' ρ' a' → a'.tmps.size = a.tmps.size → a'.defers = a.defers → SRel X φ' s'.get w' → Step φ φ' s s' w w' → Q (toExit e) a' w') → InScope P whole c Q a w) := by
  intro n
  induction n with
  | zero =>
    refine ⟨fun c ρ s e ρ' s' h => ?_, fun c ρ s e ρ' s' h => ?_, fun whole c ρ s e ρ' s' h => ?_⟩
    · simp [exec] at h
    · simp [exec] at h
    · simp [exec.jump] at h
  | succ n ih =>
    obtain ⟨hA, hB, hC⟩ := ih
    have hcall := enter_ok H hA
    have loopB : ∀ c ρ s e ρ' s', exec X (n + 1) (.loop c) ρ s = some (e, ρ', s') → ∀ (φ : Phi) (a : Act) (w : World) (Q : Exit → Act → World → Prop), codeOk X a.tmps.size c = true → EnvRel φ ρ a → GlobOk X φ → SRel X φ s.get w → Fresh φ s.size s'.size →
      (∀ φ' a' w', EnvRel φ' ρ' a' → a'.tmps.size = a.tmps.size → a'.defers = a.defers → SRel X φ' s'.get w' → Step φ φ' s s' w w' → Q (toExit e) a' w') → Code.rounds P c Q (n + 1) a w := by
      intro c ρ s e ρ' s' h φ a w Q hok hr hg hs hf hQ
      simp only [exec] at h
      rw [rounds_succ]
      split at h
      · rename_i ρ1 s1 h1
        obtain ⟨k1, r1⟩ := hA _ _ _ _ _ _ h1
        have k2 := (hA _ _ _ _ _ _ h).1
        refine r1 φ a w _ hok hr hg hs (hf.sub (Nat.le_refl _) k2.1) fun φ1 a1 w1 q1 q2 q3 q4 q5 => ?_
        exact hB _ _ _ _ _ _ h φ1 a1 w1 Q (by rw [q2]; exact hok) q1 (hg.mono q5.le) q4 (q5.fresh hf) fun φ2 a2 w2 p1 p2 p3 p4 p5 => hQ φ2 a2 w2 p1 (by rw [p2, q2]) (by rw [p3, q3]) p4 (q5.trans p5 hf)
      · rename_i hne
        obtain ⟨k1, r1⟩ := hA _ _ _ _ _ _ h
        refine r1 φ a w _ hok hr hg hs hf fun φ1 a1 w1 q1 q2 q3 q4 q5 => ?_
        have := hQ φ1 a1 w1 q1 q2 q3 q4 q5
        cases e with
        | normal => exact absurd h (by intro h'; exact hne _ _ h')
        | exit id => exact this
        | goto l => exact this
        | ret => exact this
    refine ⟨fun c ρ s e ρ' s' h => ?_, loopB, fun whole c ρ s e ρ' s' h => ?_⟩
    · -- code
      cases c with
      | skip =>
        simp only [exec, Option.some.injEq, Prod.mk.injEq] at h
        obtain ⟨rfl, rfl, rfl⟩ := h
        exact ⟨Keep.refl _, fun φ a w Q hok hr hg hs hf hQ => wp_skip (hQ φ a w hr rfl rfl hs (Step.refl _ _ _))⟩
      | label l =>
        simp only [exec, Option.some.injEq, Prod.mk.injEq] at h
        obtain ⟨rfl, rfl, rfl⟩ := h
        exact ⟨Keep.refl _, fun φ a w Q hok hr hg hs hf hQ => wp_label (hQ φ a w hr rfl rfl hs (Step.refl _ _ _))⟩
      | exit id =>
        simp only [exec, Option.some.injEq, Prod.mk.injEq] at h
        obtain ⟨rfl, rfl, rfl⟩ := h
        exact ⟨Keep.refl _, fun φ a w Q hok hr hg hs hf hQ => wp_exit (hQ φ a w hr rfl rfl hs (Step.refl _ _ _))⟩
      | goto l =>
        simp only [exec, Option.some.injEq, Prod.mk.injEq] at h
        obtain ⟨rfl, rfl, rfl⟩ := h
        exact ⟨Keep.refl _, fun φ a w Q hok hr hg hs hf hQ => wp_goto (hQ φ a w hr rfl rfl hs (Step.refl _ _ _))⟩
      | ret =>
        simp only [exec, Option.some.injEq, Prod.mk.injEq] at h
        obtain ⟨rfl, rfl, rfl⟩ := h
        exact ⟨Keep.refl _, fun φ a w Q hok hr hg hs hf hQ => wp_ret (hQ φ a w hr rfl rfl hs (Step.refl _ _ _))⟩
      | region id ops draw =>
        simp only [exec, Option.map_eq_some_iff, Prod.mk.injEq] at h
        obtain ⟨⟨T, s2⟩, hreg, rfl, rfl, rfl⟩ := h
        refine ⟨region_keep hcall hreg, fun φ a w Q hok hr hg hs hf hQ => ?_⟩
        have hops : (Code.region id ops.toList.toArray draw) = Code.region id ops draw := by simp
        rw [← hops]
        simp only [codeOk, Bool.and_eq_true, List.all_eq_true] at hok
        exact region_sound H hcall hreg hok.1 (fun hd => by have := hok.2; rw [hd] at this; simpa using this) (Nat.le_refl _) hr hg hs hf hQ
      | seq x y =>
        simp only [exec] at h
        split at h
        · rename_i ρ1 s1 h1
          obtain ⟨k1, r1⟩ := hA _ _ _ _ _ _ h1
          obtain ⟨k2, r2⟩ := hA _ _ _ _ _ _ h
          refine ⟨k1.trans k2, fun φ a w Q hok hr hg hs hf hQ => wp_seq ?_⟩
          simp only [codeOk, Bool.and_eq_true] at hok
          refine r1 φ a w _ hok.1 hr hg hs (hf.sub (Nat.le_refl _) k2.1) fun φ1 a1 w1 q1 q2 q3 q4 q5 => ?_
          exact r2 φ1 a1 w1 Q (by rw [q2]; exact hok.2) q1 (hg.mono q5.le) q4 (q5.fresh hf) fun φ2 a2 w2 p1 p2 p3 p4 p5 => hQ φ2 a2 w2 p1 (by rw [p2, q2]) (by rw [p3, q3]) p4 (q5.trans p5 hf)
        · rename_i hne
          obtain ⟨k1, r1⟩ := hA _ _ _ _ _ _ h
          refine ⟨k1, fun φ a w Q hok hr hg hs hf hQ => wp_seq ?_⟩
          simp only [codeOk, Bool.and_eq_true] at hok
          refine r1 φ a w _ hok.1 hr hg hs hf fun φ1 a1 w1 q1 q2 q3 q4 q5 => ?_
          have := hQ φ1 a1 w1 q1 q2 q3 q4 q5
          cases e with
          | normal => exact absurd h (by intro h'; exact hne _ _ h')
          | exit id => exact this
          | goto l => exact this
          | ret => exact this
      | cond c x y =>
        simp only [exec] at h
        split at h
        · rename_i t ht
          obtain ⟨k1, r1⟩ := hA _ _ _ _ _ _ h
          refine ⟨k1, fun φ a w Q hok hr hg hs hf hQ => ?_⟩
          simp only [codeOk, Bool.and_eq_true] at hok
          have hc := evo_rel hr hg hok.1.1
          rw [ht] at hc
          refine wp_cond hc.inv_bool (r1 φ a w Q ?_ hr hg hs hf hQ)
          cases t
          · exact hok.2
          · exact hok.1.2
        · cases h
      | block id c =>
        simp only [exec] at h
        split at h
        · rename_i i ρ1 s1 h1
          obtain ⟨k1, r1⟩ := hA _ _ _ _ _ _ h1
          split at h
          · rename_i hid
            subst hid
            simp only [Option.some.injEq, Prod.mk.injEq] at h
            obtain ⟨rfl, rfl, rfl⟩ := h
            refine ⟨k1, fun φ a w Q hok hr hg hs hf hQ => wp_block (r1 φ a w _ hok hr hg hs hf fun φ1 a1 w1 q1 q2 q3 q4 q5 => ?_)⟩
            simp only [toExit, Exit.inBlock, if_pos rfl]
            exact hQ φ1 a1 w1 q1 q2 q3 q4 q5
          · rename_i hid
            simp only [Option.some.injEq, Prod.mk.injEq] at h
            obtain ⟨rfl, rfl, rfl⟩ := h
            refine ⟨k1, fun φ a w Q hok hr hg hs hf hQ => wp_block (r1 φ a w _ hok hr hg hs hf fun φ1 a1 w1 q1 q2 q3 q4 q5 => ?_)⟩
            simp only [toExit, Exit.inBlock, if_neg hid]
            exact hQ φ1 a1 w1 q1 q2 q3 q4 q5
        · rename_i hne
          obtain ⟨k1, r1⟩ := hA _ _ _ _ _ _ h
          refine ⟨k1, fun φ a w Q hok hr hg hs hf hQ => wp_block (r1 φ a w _ hok hr hg hs hf fun φ1 a1 w1 q1 q2 q3 q4 q5 => ?_)⟩
          have := hQ φ1 a1 w1 q1 q2 q3 q4 q5
          cases e with
          | normal => exact this
          | exit id => exact absurd h (by intro h'; exact hne _ _ _ h')
          | goto l => exact this
          | ret => exact this
      | loop c =>
        have hk : Keep s s' := by
          simp only [exec] at h
          split at h
          · rename_i ρ1 s1 h1
            exact (hA _ _ _ _ _ _ h1).1.trans (hA _ _ _ _ _ _ h).1
          · exact (hA _ _ _ _ _ _ h).1
        exact ⟨hk, fun φ a w Q hok hr hg hs hf hQ => wp_loop_rounds (n + 1) (loopB _ _ _ _ _ _ h φ a w Q hok hr hg hs hf hQ)⟩
      | scope c =>
        simp only [exec] at h
        obtain ⟨k1, r1⟩ := hC _ _ _ _ _ _ _ h
        exact ⟨k1, fun φ a w Q hok hr hg hs hf hQ => wp_scope_in (r1 φ a w Q hok hok hr hg hs hf hQ)⟩
      | rangeFunc f ps as b => simp [exec] at h
      | refuse why => simp [exec] at h
    · -- jumps
      simp only [exec.jump] at h
      split at h
      · rename_i l ρ1 s1 h1
        obtain ⟨k1, r1⟩ := hA _ _ _ _ _ _ h1
        split at h
        · rename_i r hlab
          obtain ⟨k2, r2⟩ := hC _ _ _ _ _ _ _ h
          refine ⟨k1.trans k2, fun φ a w Q hok hok2 hr hg hs hf hQ => inScope_of ?_⟩
          refine r1 φ a w _ hok hr hg hs (hf.sub (Nat.le_refl _) k2.1) fun φ1 a1 w1 q1 q2 q3 q4 q5 => ?_
          simp only [toExit, hlab]
          exact r2 φ1 a1 w1 Q (label_ok (by rw [q2]; exact hok2) hlab) (by rw [q2]; exact hok2) q1 (hg.mono q5.le) q4 (q5.fresh hf) fun φ2 a2 w2 p1 p2 p3 p4 p5 => hQ φ2 a2 w2 p1 (by rw [p2, q2]) (by rw [p3, q3]) p4 (q5.trans p5 hf)
        · rename_i hlab
          simp only [Option.some.injEq, Prod.mk.injEq] at h
          obtain ⟨rfl, rfl, rfl⟩ := h
          refine ⟨k1, fun φ a w Q hok hok2 hr hg hs hf hQ => inScope_of ?_⟩
          refine r1 φ a w _ hok hr hg hs hf fun φ1 a1 w1 q1 q2 q3 q4 q5 => ?_
          simp only [toExit, hlab]
          exact hQ φ1 a1 w1 q1 q2 q3 q4 q5
      · rename_i hne
        obtain ⟨k1, r1⟩ := hA _ _ _ _ _ _ h
        refine ⟨k1, fun φ a w Q hok hok2 hr hg hs hf hQ => inScope_of ?_⟩
        refine r1 φ a w _ hok hr hg hs hf fun φ1 a1 w1 q1 q2 q3 q4 q5 => ?_
        have := hQ φ1 a1 w1 q1 q2 q3 q4 q5
        cases e with
        | normal => exact this
        | exit id => exact this
        | goto l => exact absurd h (by intro h'; exact hne _ _ _ h')
        | ret => exact this
include H in
theorem acall_sound {n f : Nat} (hb : X.bodied f = true) {args : List Value} {s : St} {v : Value} {s' : St} (h : acall X n f args s = some (v, s')) {φ : Phi} {args' : Array Value} {w : World} (ha : VRels φ args args'.toList) (hg : GlobOk X φ) (hs : SRel X φ s.get w) (hf : Fresh φ s.size s'.size) :
    Calls P f args' w fun e w' => ∃ φ' v', e = .returned v' ∧ VRel φ' v v' ∧ SRel X φ' s'.get w' ∧ Step φ φ' s s' w w' :=
  (enter_body H (exec_all H n).1 hb h).2 φ args' w ha hg hs hf
end
end Go.Proofs.Yticllcglldbffaa.Ab
end
section
namespace Go.Proofs.Yticllcglldbffaa.Ab
def Tr.kvs {α : Type} : Tr α → (Nat → Nat) → List (Nat × α)
  | .nil, _ => []
  | .node o l r, f => (match o with | some v => [(f 0, v)] | none => []) ++ (l.kvs (fun i => f (2 * i + 1)) ++ r.kvs (fun i => f (2 * i + 2)))
theorem Tr.mem_kvs {α : Type} : ∀ (t : Tr α) (f : Nat → Nat) (i : Nat) (v : α), t.get i = some v → (f i, v) ∈ t.kvs f
  | .nil, f, i, v, h => by simp [Tr.get] at h
  | .node o l r, f, i, v, h => by
    simp only [Tr.get] at h
    simp only [Tr.kvs, List.mem_append]
    split at h
    · rename_i hi; subst hi; subst h; simp
    · split at h
      · have := Tr.mem_kvs l (fun i => f (2 * i + 1)) _ v h
        have e : 2 * (i / 2) + 1 = i := by omega
        simp only [e] at this
        exact .inr (.inl this)
      · have := Tr.mem_kvs r (fun i => f (2 * i + 2)) _ v h
        have e : 2 * ((i - 1) / 2) + 2 = i := by omega
        simp only [e] at this
        exact .inr (.inr this)
theorem all_of_map {α β : Type} {l : List α} {f g : α → β} (h : l.map f = l.map g) : ∀ x ∈ l, f x = g x := by
  induction l with
  | nil => intro x hx; cases hx
  | cons y l ih =>
    simp only [List.map_cons, List.cons.injEq] at h
    intro x hx
    rcases List.mem_cons.1 hx with rfl | hx
    · exact h.1
    · exact ih h.2 x hx
def zeroOk (ty : Ty) : Bool := cstOk 2 ty.zero && ty.zero.cells.size == ty.size && (ty.agg || ty.size == 1)
def funOk (X : Prg) (fn : Func) : Bool := match fn.body with | some c => codeOk X fn.ntmps c | none => true
theorem soundF_of {P : Program} (tys : Tr Ty) (fns : Tr Func) (eqts : Tr Unit) (laid : List (Nat × List Value))
    (hund : (tys.kvs id).map (fun p => P.underlying p.1) = (tys.kvs id).map (fun p => some p.2.und))
    (hinfo : (tys.kvs id).map (fun p => (P.info? p.1).map fun i => (i.size, i.bytes, i.zero)) = (tys.kvs id).map (fun p => some (p.2.size, p.2.bytes, some p.2.zero)))
    (hzero : (tys.kvs id).all (fun p => zeroOk p.2) = true)
    (hheld : (eqts.kvs id).all (fun p => !P.stoodInHeld p.1) = true)
    (hguard : (eqts.kvs id).all (fun p => !P.eqGuardType P.depth p.1) = true)
    (hfn : (fns.kvs id).map (fun p => P.funcs[p.1]?) = (fns.kvs id).map (fun p => some p.2))
    (hname : (fns.kvs id).all (fun p => !(p.2.name == "runtime.NumGoroutine")) = true)
    (hcode : (fns.kvs id).all (fun p => funOk ⟨tys.get, fns.get, fun t => (eqts.get t).isSome, laid, fun _ _ => none⟩ p.2) = true)
    (hmixed : P.follows .mixedOrders = true) :
    SoundF ⟨tys.get, fns.get, fun t => (eqts.get t).isSome, laid, fun _ _ => none⟩ P where
  und t ty h := all_of_map hund _ (Tr.mem_kvs tys id t ty h)
  info t ty h := by
    have := all_of_map hinfo _ (Tr.mem_kvs tys id t ty h)
    simp only [id, Option.map_eq_some_iff, Prod.mk.injEq] at this
    obtain ⟨i, h1, h2, h3, h4⟩ := this
    exact ⟨i, h1, h2, h3, h4⟩
  zero t ty h := by
    have := List.all_eq_true.1 hzero _ (Tr.mem_kvs tys id t ty h)
    simp only [zeroOk, Bool.and_eq_true, beq_iff_eq, Bool.or_eq_true] at this
    refine ⟨this.1.1, this.1.2, fun ha => ?_⟩
    rcases this.2 with h1 | h1
    · rw [ha] at h1; cases h1
    · exact h1
  held t h := by
    obtain ⟨u, hu⟩ := Option.isSome_iff_exists.1 h
    simpa using List.all_eq_true.1 hheld _ (Tr.mem_kvs eqts id t u hu)
  guard t h := by
    obtain ⟨u, hu⟩ := Option.isSome_iff_exists.1 h
    simpa using List.all_eq_true.1 hguard _ (Tr.mem_kvs eqts id t u hu)
  fn f fn h := all_of_map hfn _ (Tr.mem_kvs fns id f fn h)
  name f fn h := by simpa using List.all_eq_true.1 hname _ (Tr.mem_kvs fns id f fn h)
  code f fn c h hc := by
    have := List.all_eq_true.1 hcode _ (Tr.mem_kvs fns id f fn h)
    simpa [funOk, hc] using this
  mixed := hmixed
  knows f args v h := by cases h
def Prg.knowing (X : Prg) (k : Nat → List Value → Option Value) : Prg := ⟨X.ty, X.fn, X.eqs, X.laid, k⟩
theorem codeOk_knowing (X : Prg) (k : Nat → List Value → Option Value) (n : Nat) : ∀ c, codeOk (X.knowing k) n c = codeOk X n c := by
  have ho : ∀ x, opdOk (X.knowing k) x = opdOk X x := by intro x; cases x <;> rfl
  have hp : ∀ o, operOk (X.knowing k) n o = operOk X n o := by
    intro o
    unfold operOk
    have : opdOk (X.knowing k) = opdOk X := funext ho
    rw [this]
  intro c
  induction c with
  | region id ops d =>
    simp only [codeOk]
    have : operOk (X.knowing k) n = operOk X n := funext hp
    rw [this]
    rfl
  | seq a b h1 h2 => simp only [codeOk, h1, h2]
  | cond c a b h1 h2 => simp only [codeOk, h1, h2, ho]
  | block i c h => simp only [codeOk, h]
  | loop c h => simp only [codeOk, h]
  | scope c h => simp only [codeOk, h]
  | _ => rfl
theorem SoundF.knowing {X : Prg} {P : Program} (H : SoundF X P) {k : Nat → List Value → Option Value} (hk : Knows P X.laid k) : SoundF (X.knowing k) P where
  und := H.und
  info := H.info
  zero := H.zero
  held := H.held
  guard := H.guard
  fn := H.fn
  name := H.name
  code f fn c h hc := by rw [codeOk_knowing]; exact H.code f fn c h hc
  mixed := H.mixed
  knows := hk
def layT : List (Nat × List Value) → Tr AObj → Tr AObj
  | [], t => t
  | p :: r, t => layT r (t.set p.1 (.ro p.2))
def startS (G : Nat) (X : Prg) : St := ⟨G, layT X.laid .nil⟩
def startP (X : Prg) : Phi := fun b e => if e = 0 ∧ X.glob b = true then some ⟨b, 0, 0, 0⟩ else none
theorem layT_get {laid : List (Nat × List Value)} : ∀ (l : List (Nat × List Value)) (t : Tr AObj), (∀ p ∈ l, p ∈ laid) → (∀ b o, t.get b = some o → ∃ cs, o = .ro cs ∧ (b, cs) ∈ laid) → ∀ b o, (layT l t).get b = some o → ∃ cs, o = .ro cs ∧ (b, cs) ∈ laid
  | [], t, _, h => h
  | p :: l, t, hl, h => by
    refine layT_get l _ (fun q hq => hl q (List.mem_cons_of_mem _ hq)) fun b o hb => ?_
    rw [Tr.get_set] at hb
    split at hb
    · rename_i he; subst he; cases hb
      exact ⟨p.2, rfl, hl p List.mem_cons_self⟩
    · exact h b o hb
theorem start_get {G : Nat} {X : Prg} {b : Nat} {o : AObj} (h : (startS G X).get b = some o) : ∃ cs, o = .ro cs ∧ (b, cs) ∈ X.laid := by
  unfold St.get startS at h
  split at h
  · exact layT_get X.laid .nil (fun _ h => h) (fun b o h => by simp [Tr.get] at h) b o h
  · cases h
structure Ready (X : Prg) (φ : Phi) (s : St) (w : World) : Prop where
  rel : SRel X φ s.get w
  ro : ∀ b e l, φ b e = some l → isMut (s.get b) = false
  fresh : ∀ b e, s.size ≤ b → φ b e = none
  glob : GlobOk X φ
theorem Ready.start {X : Prg} {w : World} {G : Nat} (hG : ∀ p ∈ X.laid, p.1 < G) (hpl : ∀ p ∈ X.laid, ∀ v ∈ p.2, plainV v = true) (h : LaidIn X.laid w) : Ready X (startP X) (startS G X) w := by
  have hp : ∀ b e l, startP X b e = some l → e = 0 ∧ X.glob b = true ∧ l = ⟨b, 0, 0, 0⟩ := by
    intro b e l hb
    unfold startP at hb
    split at hb
    · rename_i hc; cases hb; exact ⟨hc.1, hc.2, rfl⟩
    · cases hb
  have hmem : ∀ b, X.glob b = true → ∃ cs, (b, cs) ∈ X.laid := by
    intro b hb
    obtain ⟨p, h1, h2⟩ := List.any_eq_true.1 hb
    have : p.1 = b := by simpa using h2
    subst this
    exact ⟨p.2, h1⟩
  have hro : ∀ b, isMut ((startS G X).get b) = false := by
    intro b
    cases hb : (startS G X).get b with
    | none => rfl
    | some o =>
      obtain ⟨cs, rfl, _⟩ := start_get hb
      rfl
  refine ⟨⟨fun b e l hb o ho => ?_, fun b e l hb => ?_, fun b e l b' e' l' hb hb' hne hm => ?_⟩, fun b e l hb => hro b, fun b e hb => ?_, fun g hg => ?_⟩
  · obtain ⟨rfl, _, rfl⟩ := hp b e l hb
    obtain ⟨cs, rfl, hc⟩ := start_get ho
    intro _ i v hv
    refine ⟨v, ?_, ?_⟩
    · rw [Nat.zero_add]; exact (h _ hc).2 i v hv
    · have := hpl _ hc v (List.mem_of_getElem? hv)
      cases v <;> first | exact .bool _ | exact .int _ _ | exact .string _ | (simp [plainV] at this; done)
  · obtain ⟨rfl, hg, rfl⟩ := hp b e l hb
    obtain ⟨cs, hc⟩ := hmem b hg
    exact (h _ hc).1
  · rw [hro b] at hm; cases hm
  · cases hx : startP X b e with
    | none => rfl
    | some l =>
      obtain ⟨_, hg, _⟩ := hp b e l hx
      obtain ⟨cs, hc⟩ := hmem b hg
      have := hG _ hc
      have : G ≤ b := hb
      simp only at *
      omega
  · exact ⟨⟨g, 0, 0, 0⟩, by simp [startP, hg], rfl, rfl⟩
theorem knows_of {X : Prg} {P : Program} (H : SoundF X P) {G : Nat} (hG : ∀ p ∈ X.laid, p.1 < G) (hpl : ∀ p ∈ X.laid, ∀ v ∈ p.2, plainV v = true) {n f : Nat} {v : Value} {s' : St} (hb : X.bodied f = true) (h : acall X n f [] (startS G X) = some (v, s')) (hv : cstOk 4 v = true) :
    (∃ fn, P.funcs[f]? = some fn ∧ fn.body.isSome = true ∧ (fn.name == "runtime.NumGoroutine") = false) ∧ ∀ w, LaidIn X.laid w → Calls P f #[] w fun e w' => e = .returned v ∧ Grow w w' := by
  refine ⟨(enter_body H (exec_all H n).1 hb h).1, fun w hw => ?_⟩
  have hrd := Ready.start hG hpl hw
  refine (acall_sound H hb h (args' := #[]) (w := w) .nil hrd.glob hrd.rel (fun b e h1 _ => hrd.fresh b e h1)).mono ?_
  rintro e w' ⟨φ', v', rfl, hr, hs, st⟩
  have : v' = v := by
    have : ∀ (m : Nat) (u u' : Value), cstOk m u = true → VRel φ' u u' → u' = u := by
      intro m
      induction m with
      | zero =>
        intro u u' hc hr
        cases hr <;> first | rfl | (simp [cstOk] at hc; done)
      | succ m ih =>
        have ihs : ∀ (l l' : List Value), l.all (cstOk m) = true → VRels φ' l l' → l' = l := by
          intro l
          induction l with
          | nil => intro l' _ hr; cases hr; rfl
          | cons u l ihl =>
            intro l' hc hr
            simp only [List.all_cons, Bool.and_eq_true] at hc
            cases hr with | cons _ u' _ l' h1 h2 =>
            rw [ih _ _ hc.1 h1, ihl _ hc.2 h2]
        intro u u' hc hr
        cases hr <;> first
          | rfl
          | (simp [cstOk] at hc; done)
          | (rename_i hrs; have := ihs _ _ (by simpa [cstOk] using hc) hrs; rw [Array.toList_inj.1 this])
          | (rename_i hrs; rw [ih _ _ (by simpa [cstOk] using hc) hrs])
    exact this 4 v v' hv hr
  subst this
  refine ⟨rfl, st.os, st.tape, st.output, st.wsize, fun c hc => st.frm c hc fun b e l hb _ => hrd.ro b e l hb⟩
def awk (G : Nat) (X : Prg) (f : Nat) : Bool := X.bodied f && match acall X 100000 f [] (startS G X) with | some (.bool true, _) => true | _ => false
def knL (l : List Nat) (f : Nat) (args : List Value) : Option Value := if args.isEmpty && l.contains f then some (.bool true) else none
def laidWell (G : Nat) (X : Prg) : Bool := X.laid.all fun p => decide (p.1 < G) && p.2.all plainV
theorem laidWell_lt {G : Nat} {X : Prg} (h : laidWell G X = true) : ∀ p ∈ X.laid, p.1 < G := fun p hp => by
  have := List.all_eq_true.1 h p hp
  rw [Bool.and_eq_true] at this
  exact of_decide_eq_true this.1
theorem laidWell_plain {G : Nat} {X : Prg} (h : laidWell G X = true) : ∀ p ∈ X.laid, ∀ v ∈ p.2, plainV v = true := fun p hp => by
  have := List.all_eq_true.1 h p hp
  rw [Bool.and_eq_true] at this
  exact List.all_eq_true.1 this.2
theorem knows_knL {X : Prg} {P : Program} (H : SoundF X P) {G : Nat} (hw : laidWell G X = true) {l : List Nat} (h : ∀ f ∈ l, awk G X f = true) : Knows P X.laid (knL l) := by
  intro f args v hk hp
  unfold knL at hk
  split at hk
  · rename_i hc
    cases hk
    rw [Bool.and_eq_true, List.isEmpty_iff, List.contains_iff_mem] at hc
    obtain ⟨rfl, hf⟩ := hc
    have := h f hf
    unfold awk at this
    rw [Bool.and_eq_true] at this
    obtain ⟨hb, this⟩ := this
    split at this
    · rename_i s' h1
      exact knows_of H (laidWell_lt hw) (laidWell_plain hw) hb h1 rfl
    · cases this
  · cases hk
end Go.Proofs.Yticllcglldbffaa.Ab
end
section
namespace Go.Proofs.Yticllcglldbffaa.Ab
inductive Gd where
  | always
  | never
  | on (t : Nat) (w : Bool)
structure SO where
  dst : Option Nat
  op : Op
  g : Gd
def strip1 (all : Array Oper) (o : Oper) : SO :=
  ⟨o.dst, o.op, match o.guard with
    | none => .always
    | some (j, w) => match (all[j]?).bind (·.dst) with
      | some d => .on d w
      | none => .never⟩
def isB (v : Value) (w : Bool) : Bool := match v with | .bool b => b == w | _ => false
def wantS (g : Gd) (ρ : Env) : Bool := match g with
  | .always => true
  | .never => false
  | .on t w => isB (ρ.get t) w
theorem wantS_strip (all : Array Oper) (o : Oper) (ρ : Env) : wantedE all o ρ = wantS (strip1 all o).g ρ := by
  unfold wantedE strip1 wantS isB
  cases o.guard with
  | none => rfl
  | some p =>
    obtain ⟨j, w⟩ := p
    simp only
    cases (all[j]?).bind (·.dst) <;> rfl
def stepS (call : Caller) (X : Prg) (op : Op) (ρ : Env) (s : St) : Option (Value × St) :=
  match op with
  | .call { callee := .value f, args, .. } => match evo ρ f with
    | .func (.func k) first captured => call k (first.toList ++ args.toList.map (evo ρ) ++ captured.toList) s
    | _ => none
  | op => aop X (evo ρ) op s
def runS (call : Caller) (X : Prg) : List SO → Env → St → Option (Env × St)
  | [], ρ, s => some (ρ, s)
  | o :: r, ρ, s =>
    if wantS o.g ρ then
      match stepS call X o.op ρ s with
      | some (v, s') => runS call X r (ρ.put o.dst v) s'
      | none => none
    else runS call X r (ρ.put o.dst undef) s
theorem runS_strip (call : Caller) (X : Prg) (all : Array Oper) : ∀ (l : List Oper) (ρ : Env) (s : St), runOps call X all l ρ s = runS call X (l.map (strip1 all)) ρ s
  | [], _, _ => rfl
  | o :: r, ρ, s => by
    simp only [runOps, List.map_cons, runS, wantS_strip]
    have e : stepOp call X o ρ s = stepS call X (strip1 all o).op ρ s := rfl
    rw [e]
    simp only [runS_strip call X all r]
    rfl
def Cle (c d : Caller) : Prop := ∀ f args s r, c f args s = some r → d f args s = some r
theorem stepOp_mono {c d : Caller} (h : Cle c d) {X : Prg} {o : Oper} {ρ : Env} {s : St} {r : Value × St} (hr : stepOp c X o ρ s = some r) : stepOp d X o ρ s = some r := by
  unfold stepOp at hr ⊢
  split at hr
  · split at hr
    · exact h _ _ _ _ hr
    · cases hr
  · exact hr
theorem stepS_mono {c d : Caller} (h : Cle c d) {X : Prg} {o : Op} {ρ : Env} {s : St} {r : Value × St} (hr : stepS c X o ρ s = some r) : stepS d X o ρ s = some r := by
  unfold stepS at hr ⊢
  split at hr
  · split at hr
    · exact h _ _ _ _ hr
    · cases hr
  · exact hr
theorem runS_mono {c d : Caller} (h : Cle c d) {X : Prg} : ∀ (l : List SO) (ρ : Env) (s : St) (r : Env × St), runS c X l ρ s = some r → runS d X l ρ s = some r
  | [], _, _, _, hr => hr
  | o :: l, ρ, s, r, hr => by
    simp only [runS] at hr ⊢
    split at hr
    · rename_i hw
      rw [if_pos hw]
      split at hr
      · rename_i v s' h1
        rw [stepS_mono h h1]
        exact runS_mono h l _ _ _ hr
      · cases hr
    · rename_i hw
      rw [if_neg hw]
      exact runS_mono h l _ _ _ hr
theorem trace_mono {c d : Caller} (h : Cle c d) {X : Prg} {all : Array Oper} : ∀ (l : List Oper) (ρ : Env) (s : St) (r : Env × St), runOps c X all l ρ s = some r → runOps d X all l ρ s = some r ∧ trace d X all l ρ s = trace c X all l ρ s
  | [], _, _, _, hr => ⟨hr, rfl⟩
  | o :: l, ρ, s, r, hr => by
    simp only [runOps, trace] at hr ⊢
    split at hr
    · rename_i hw
      simp only [if_pos hw]
      split at hr
      · rename_i v s' h1
        rw [stepOp_mono h h1]
        obtain ⟨h2, h3⟩ := trace_mono h l _ _ _ hr
        simp only [h2, h1, h3, and_self]
      · cases hr
    · rename_i hw
      simp only [if_neg hw]
      obtain ⟨h2, h3⟩ := trace_mono h l _ _ _ hr
      exact ⟨h2, by rw [h3]⟩
theorem region_mono {c d : Caller} (h : Cle c d) {X : Prg} {ops : List Oper} {draw : Bool} {ρ : Env} {s : St} {r : Env × St} (hr : region c X ops draw ρ s = some r) : region d X ops draw ρ s = some r := by
  unfold region at hr ⊢
  split at hr
  · cases hr
  · rename_i T s' h1
    obtain ⟨h2, h3⟩ := trace_mono h _ _ _ _ h1
    rw [h2, h3]
    exact hr
def Ele (a b : Code → Env → St → Option (Xit × Env × St)) : Prop := ∀ c ρ s r, a c ρ s = some r → b c ρ s = some r
theorem enter_mono {a b : Code → Env → St → Option (Xit × Env × St)} (h : Ele a b) (X : Prg) : Cle (enter a X) (enter b X) := by
  intro f args s r hr
  unfold enter at hr ⊢
  cases hkn : X.known f args with
  | some v => simp only [hkn] at hr ⊢; exact hr
  | none =>
  cases hfn : X.fn f with
  | none => simp only [hkn, hfn] at hr; cases hr
  | some fn =>
    cases hc : fn.body with
    | none => simp only [hkn, hfn, hc] at hr ⊢; exact hr
    | some c =>
        simp only [hkn, hfn, hc] at hr ⊢
        split at hr
        · rename_i hl
          rw [if_pos hl]
          split at hr
          · rename_i h1; rw [h _ _ _ _ h1]; exact hr
          · rename_i h1; rw [h _ _ _ _ h1]; exact hr
          · cases hr
        · cases hr
theorem exec_mono (X : Prg) : ∀ n, Ele (exec X n) (exec X (n + 1)) ∧ ∀ whole c ρ s r, exec.jump X n whole c ρ s = some r → exec.jump X (n + 1) whole c ρ s = some r
  | 0 => ⟨fun c ρ s r h => by simp [exec] at h, fun whole c ρ s r h => by simp [exec.jump] at h⟩
  | n + 1 => by
    obtain ⟨ih, ihj⟩ := exec_mono X n
    refine ⟨fun c ρ s r h => ?_, fun whole c ρ s r h => ?_⟩
    · cases c with
      | skip => exact h
      | label l => exact h
      | exit id => exact h
      | goto l => exact h
      | ret => exact h
      | region id ops draw =>
        rw [exec] at h ⊢
        simp only [Option.map_eq_some_iff] at h ⊢
        obtain ⟨p, h1, h2⟩ := h
        exact ⟨p, region_mono (enter_mono ih X) h1, h2⟩
      | seq a b =>
        rw [exec] at h ⊢
        split at h
        · rename_i h1
          rw [ih _ _ _ _ h1]
          exact ih _ _ _ _ h
        · rename_i hne
          rw [ih _ _ _ _ h]
          obtain ⟨e, ρ1, s1⟩ := r
          cases e with
          | normal => exact absurd h (by intro h'; exact hne _ _ h')
          | _ => rfl
      | cond c a b =>
        rw [exec] at h ⊢
        split at h
        · exact ih _ _ _ _ h
        · cases h
      | block id c =>
        rw [exec] at h ⊢
        split at h
        · rename_i h1
          rw [ih _ _ _ _ h1]
          exact h
        · rename_i hne
          rw [ih _ _ _ _ h]
          obtain ⟨e, ρ1, s1⟩ := r
          cases e with
          | exit i => exact absurd h (by intro h'; exact hne _ _ _ h')
          | _ => rfl
      | loop c =>
        rw [exec] at h ⊢
        split at h
        · rename_i h1
          rw [ih _ _ _ _ h1]
          exact ih _ _ _ _ h
        · rename_i hne
          rw [ih _ _ _ _ h]
          obtain ⟨e, ρ1, s1⟩ := r
          cases e with
          | normal => exact absurd h (by intro h'; exact hne _ _ h')
          | _ => rfl
      | scope c =>
        rw [exec] at h ⊢
        exact ihj _ _ _ _ _ h
      | rangeFunc f ps a b => simp [exec] at h
      | refuse why => simp [exec] at h
    · rw [exec.jump] at h ⊢
      split at h
      · rename_i h1
        rw [ih _ _ _ _ h1]
        split at h
        · rename_i r2 hl
          simp only [hl]
          exact ihj _ _ _ _ _ h
        · rename_i hl
          simp only [hl]
          exact h
      · rename_i hne
        rw [ih _ _ _ _ h]
        obtain ⟨e, ρ1, s1⟩ := r
        cases e with
        | goto l => exact absurd h (by intro h'; exact hne _ _ _ h')
        | _ => rfl
theorem exec_le (X : Prg) {n m : Nat} (h : n ≤ m) : Ele (exec X n) (exec X m) := by
  induction h with
  | refl => exact fun _ _ _ _ h => h
  | step _ ih => exact fun c ρ s r hr => (exec_mono X _).1 _ _ _ _ (ih _ _ _ _ hr)
theorem call_le (X : Prg) {n m : Nat} (h : n ≤ m) : Cle (enter (exec X n) X) (enter (exec X m) X) := enter_mono (exec_le X h) X
def W (X : Prg) (c : Code) (ρ : Env) (s : St) (Q : Xit → Env → St → Prop) : Prop := ∃ n e ρ' s', exec X n c ρ s = some (e, ρ', s') ∧ Q e ρ' s'
def WC (X : Prg) (f : Nat) (args : List Value) (s : St) (Q : Value → St → Prop) : Prop := ∃ n v s', acall X n f args s = some (v, s') ∧ Q v s'
def WS (X : Prg) (l : List SO) (ρ : Env) (s : St) (K : Env → St → Prop) : Prop := ∃ n ρ' s', runS (enter (exec X n) X) X l ρ s = some (ρ', s') ∧ K ρ' s'
def bindO {α : Type} (o : Option α) (K : α → Prop) : Prop := ∃ a, o = some a ∧ K a
theorem bindO_some {α : Type} (a : α) (K : α → Prop) : bindO (some a) K = K a := by simp [bindO]
theorem bindO_none {α : Type} (K : α → Prop) : bindO none K = False := by simp [bindO]
section
variable {X : Prg} {ρ : Env} {s : St}
theorem W_mono {c : Code} {Q R : Xit → Env → St → Prop} (h : W X c ρ s Q) (hQ : ∀ e ρ' s', Q e ρ' s' → R e ρ' s') : W X c ρ s R :=
  let ⟨n, e, ρ', s', h1, h2⟩ := h
  ⟨n, e, ρ', s', h1, hQ _ _ _ h2⟩
theorem WC_mono {f : Nat} {args : List Value} {Q R : Value → St → Prop} (h : WC X f args s Q) (hQ : ∀ v s', Q v s' → R v s') : WC X f args s R :=
  let ⟨n, v, s', h1, h2⟩ := h
  ⟨n, v, s', h1, hQ _ _ h2⟩
theorem W_skip {Q : Xit → Env → St → Prop} (h : Q .normal ρ s) : W X .skip ρ s Q := ⟨1, _, _, _, rfl, h⟩
theorem W_label {l : Nat} {Q : Xit → Env → St → Prop} (h : Q .normal ρ s) : W X (.label l) ρ s Q := ⟨1, _, _, _, rfl, h⟩
theorem W_exit {i : Nat} {Q : Xit → Env → St → Prop} (h : Q (.exit i) ρ s) : W X (.exit i) ρ s Q := ⟨1, _, _, _, rfl, h⟩
theorem W_goto {l : Nat} {Q : Xit → Env → St → Prop} (h : Q (.goto l) ρ s) : W X (.goto l) ρ s Q := ⟨1, _, _, _, rfl, h⟩
theorem W_ret {Q : Xit → Env → St → Prop} (h : Q .ret ρ s) : W X .ret ρ s Q := ⟨1, _, _, _, rfl, h⟩
def seqQ (X : Prg) (b : Code) (Q : Xit → Env → St → Prop) (e : Xit) (ρ : Env) (s : St) : Prop := match e with | .normal => W X b ρ s Q | e => Q e ρ s
def loopQ (X : Prg) (c : Code) (Q : Xit → Env → St → Prop) (e : Xit) (ρ : Env) (s : St) : Prop := match e with | .normal => W X (.loop c) ρ s Q | e => Q e ρ s
def blockQ (id : Nat) (Q : Xit → Env → St → Prop) (e : Xit) (ρ : Env) (s : St) : Prop := match e with | .exit i => if i = id then Q .normal ρ s else Q (.exit i) ρ s | e => Q e ρ s
theorem W_seq {a b : Code} {Q : Xit → Env → St → Prop} (h : W X a ρ s (seqQ X b Q)) : W X (.seq a b) ρ s Q := by
  obtain ⟨n, e, ρ1, s1, h1, h2⟩ := h
  cases e with
  | normal =>
    obtain ⟨m, e, ρ2, s2, h3, h4⟩ := h2
    refine ⟨max n m + 1, e, ρ2, s2, ?_, h4⟩
    rw [exec, exec_le X (Nat.le_max_left n m) _ _ _ _ h1]
    exact exec_le X (Nat.le_max_right n m) _ _ _ _ h3
  | exit i => exact ⟨n + 1, _, _, _, by rw [exec, h1], h2⟩
  | goto l => exact ⟨n + 1, _, _, _, by rw [exec, h1], h2⟩
  | ret => exact ⟨n + 1, _, _, _, by rw [exec, h1], h2⟩
theorem W_loop {c : Code} {Q : Xit → Env → St → Prop} (h : W X c ρ s (loopQ X c Q)) : W X (.loop c) ρ s Q := by
  obtain ⟨n, e, ρ1, s1, h1, h2⟩ := h
  cases e with
  | normal =>
    obtain ⟨m, e, ρ2, s2, h3, h4⟩ := h2
    refine ⟨max n m + 1, e, ρ2, s2, ?_, h4⟩
    rw [exec, exec_le X (Nat.le_max_left n m) _ _ _ _ h1]
    exact exec_le X (Nat.le_max_right n m) _ _ _ _ h3
  | exit i => exact ⟨n + 1, _, _, _, by rw [exec, h1], h2⟩
  | goto l => exact ⟨n + 1, _, _, _, by rw [exec, h1], h2⟩
  | ret => exact ⟨n + 1, _, _, _, by rw [exec, h1], h2⟩
theorem W_block {id : Nat} {c : Code} {Q : Xit → Env → St → Prop} (h : W X c ρ s (blockQ id Q)) : W X (.block id c) ρ s Q := by
  obtain ⟨n, e, ρ1, s1, h1, h2⟩ := h
  cases e with
  | exit i =>
    simp only [blockQ] at h2
    split at h2
    · rename_i hi
      exact ⟨n + 1, .normal, ρ1, s1, by rw [exec, h1]; simp only [if_pos hi], h2⟩
    · rename_i hi
      exact ⟨n + 1, .exit i, ρ1, s1, by rw [exec, h1]; simp only [if_neg hi], h2⟩
  | normal => exact ⟨n + 1, _, _, _, by rw [exec, h1], h2⟩
  | goto l => exact ⟨n + 1, _, _, _, by rw [exec, h1], h2⟩
  | ret => exact ⟨n + 1, _, _, _, by rw [exec, h1], h2⟩
theorem W_cond {c : Operand} {a b : Code} {Q : Xit → Env → St → Prop} {t : Bool} (hc : evo ρ c = .bool t) (h : W X (if t then a else b) ρ s Q) : W X (.cond c a b) ρ s Q := by
  obtain ⟨n, e, ρ1, s1, h1, h2⟩ := h
  exact ⟨n + 1, _, _, _, by rw [exec, hc]; exact h1, h2⟩
theorem W_cond_true {c : Operand} {a b : Code} {Q : Xit → Env → St → Prop} (hc : evo ρ c = .bool true) (h : W X a ρ s Q) : W X (.cond c a b) ρ s Q := W_cond hc h
theorem W_cond_false {c : Operand} {a b : Code} {Q : Xit → Env → St → Prop} (hc : evo ρ c = .bool false) (h : W X b ρ s Q) : W X (.cond c a b) ρ s Q := W_cond hc h
def readsStat (X : Prg) (ops : List Oper) : Bool :=
  (effsOf ops).isEmpty || (iota ops.length).all fun i => match ops[i]? with
    | some o => isEff o.op || isNew X o.op || (effsOf ops).all fun j => ((befs ops).getD i 0).testBit j || ((befs ops).getD j 0).testBit i
    | none => false
theorem iota_mem : ∀ {n i : Nat}, i ∈ iota n → i < n
  | 0, _, h => by cases h
  | n + 1, i, h => by
    simp only [iota, List.mem_append, List.mem_singleton] at h
    rcases h with h | h
    · have := iota_mem h; omega
    · omega
theorem trace_len {call : Caller} {all : Array Oper} : ∀ (l : List Oper) (ρ : Env) (s : St) (r : Env × St), runOps call X all l ρ s = some r → (trace call X all l ρ s).length = l.length + 1
  | [], _, _, _, _ => rfl
  | o :: l, ρ, s, r, h => by
    simp only [runOps, trace] at h ⊢
    split at h
    · rename_i hw
      rw [if_pos hw]
      split at h
      · rename_i v s' h1
        simp only [h1, List.length_cons, trace_len l _ _ _ h]
      · cases h
    · rename_i hw
      rw [if_neg hw]
      simp only [List.length_cons, trace_len l _ _ _ h]
theorem readsOk_stat {call : Caller} {ops : List Oper} {T : Env} {r : Env × St} (h : readsStat X ops = true) (hr : runOps call X ops.toArray ops ρ s = some r) : readsOk X ops T (trace call X ops.toArray ops ρ s) = true := by
  unfold readsStat at h
  unfold readsOk
  rw [Bool.or_eq_true] at h ⊢
  rcases h with h | h
  · exact .inl h
  · refine .inr (List.all_eq_true.2 fun i hi => ?_)
    have hl := trace_len _ _ _ _ hr
    have hn := iota_mem hi
    obtain ⟨at_, hat⟩ : ∃ a, (trace call X ops.toArray ops ρ s)[i]? = some a := ⟨_, List.getElem?_eq_getElem (by omega)⟩
    have h1 := List.all_eq_true.1 h i hi
    have ho : ops[i]? = some ops[i] := List.getElem?_eq_getElem hn
    rw [hat, ho]
    rw [ho] at h1
    simp only [Bool.or_eq_true] at h1 ⊢
    rcases h1 with h1 | h1
    · exact .inl h1
    · refine .inr (List.all_eq_true.2 fun j hj => ?_)
      have h2 := List.all_eq_true.1 h1 j hj
      rw [Bool.or_eq_true, Bool.or_eq_true]
      exact .inl (.inl h2)
def regOk (X : Prg) (ops : List Oper) (draw : Bool) : Bool := !draw || readsStat X ops
theorem W_region {id : Nat} {ops : Array Oper} {draw : Bool} {Q : Xit → Env → St → Prop} (hok : regOk X ops.toList draw = true) (h : ∀ K, K = Q .normal → WS X (ops.toList.map (strip1 ops)) ρ s K) : W X (.region id ops draw) ρ s Q := by
  have h := h _ rfl
  obtain ⟨n, ρ1, s1, h1, h2⟩ := h
  refine ⟨n + 1, .normal, ρ1, s1, ?_, h2⟩
  have hrun : runOps (enter (exec X n) X) X ops.toList.toArray ops.toList ρ s = some (ρ1, s1) := by rw [runS_strip]; simpa using h1
  rw [exec, Option.map_eq_some_iff]
  refine ⟨(ρ1, s1), ?_, rfl⟩
  unfold region
  rw [hrun]
  simp only
  cases draw with
  | false => rfl
  | true =>
    simp only [regOk, Bool.not_true, Bool.false_or] at hok
    rw [if_pos rfl, if_pos]
    exact readsOk_stat hok hrun
inductive PR where
  | done (ρ : Env) (s : St)
  | call (k : Nat) (args : List Value) (d : Option Nat) (r : List SO) (ρ : Env) (s : St)
  | bad
def boolOf (v : Value) : Option Bool := match v with | .bool t => some t | _ => none
def funOf (v : Value) : Option (Nat × Array Value × Array Value) := match v with | .func (.func k) a b => some (k, a, b) | _ => none
def isCall (op : Op) : Option (Operand × Array Operand) := match op with
  | .call { callee := .value f, args, .. } => some (f, args)
  | _ => none
theorem stepS_call {call : Caller} {op : Op} {f : Operand} {args : Array Operand} (h : isCall op = some (f, args)) : stepS call X op ρ s = match funOf (evo ρ f) with | some (k, a, b) => call k (a.toList ++ args.toList.map (evo ρ) ++ b.toList) s | none => none := by
  unfold isCall at h
  split at h
  · cases h
    simp only [stepS]
    generalize evo ρ f = v
    cases v with
    | func fn a b => cases fn <;> rfl
    | _ => rfl
  · cases h
theorem stepS_aop {call : Caller} {op : Op} (h : isCall op = none) : stepS call X op ρ s = aop X (evo ρ) op s := by
  unfold isCall at h
  split at h
  · cases h
  · rename_i hne
    unfold stepS
    split
    · rename_i f args ts
      exact (hne f args ts rfl).elim
    · rfl
section
variable {d : Option Nat} {r : List SO}
end
noncomputable def bodyOf (f : Func) : Code := f.body.getD .skip
def retQ (X : Prg) (rs : List ResultVar) (Q : Value → St → Prop) (e : Xit) (ρ : Env) (s : St) : Prop := match e with
  | .normal | .ret => bindO (resvs X ρ s rs) fun vs => Q (tupv vs) s
  | _ => False
theorem WC_enter {f : Nat} {args : List Value} {Q : Value → St → Prop} {fn : Func} {c : Code} (hk : X.known f args = none) (hf : X.fn f = some fn) (hc : fn.body = some c) (hl : args.length ≤ fn.ntmps) (h : W X c (Env.of args) s (retQ X fn.results.toList Q)) : WC X f args s Q := by
  obtain ⟨n, e, ρ1, s1, h1, h2⟩ := h
  cases e with
  | normal =>
    obtain ⟨vs, h3, h4⟩ := h2
    exact ⟨n, tupv vs, s1, by unfold acall enter; simp [hk, hf, hc, hl, h1, h3], h4⟩
  | ret =>
    obtain ⟨vs, h3, h4⟩ := h2
    exact ⟨n, tupv vs, s1, by unfold acall enter; simp [hk, hf, hc, hl, h1, h3], h4⟩
  | exit i => exact h2.elim
  | goto l => exact h2.elim
theorem WC_known {f : Nat} {args : List Value} {Q : Value → St → Prop} {v : Value} (hk : X.known f args = some v) (ha : args.all plainV = true) (hv : cstOk 4 v = true) (hl : laidOk X s = true) (h : Q v s) : WC X f args s Q :=
  ⟨0, v, s, by unfold acall enter; simp only [hk, ha, hv, hl, Bool.and_self, if_true], h⟩
end
end Go.Proofs.Yticllcglldbffaa.Ab
end
