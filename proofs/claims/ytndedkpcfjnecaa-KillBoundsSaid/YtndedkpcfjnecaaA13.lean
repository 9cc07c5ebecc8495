/- Regions whose order is open: whatever the order, what the text's order gives. -/
import Derived.Test.YtndedkpcfjnecaaA12
set_option linter.unusedSimpArgs false
set_option linter.unusedVariables false
namespace Go.Proofs.Ytndedkpcfjnecaa.Ab

def eff (L : List Oper) (j : Nat) : Bool := match L[j]? with
  | some o => isEff o.op
  | none => false
theorem eff_some {L : List Oper} {j : Nat} {o : Oper} (h : L[j]? = some o) : eff L j = isEff o.op := by unfold eff; rw [h]
theorem stepOp_quiet {call : Caller} {X : Prg} {o : Oper} {ρ : Env} {s : St} (h : isEff o.op = false) : stepOp call X o ρ s = aop X (evo ρ) o.op s := by
  unfold stepOp
  split
  · rename_i f args at_ hop
    rw [hop] at h
    simp [isEff] at h
  · rfl

/-- What holds of the machine's worlds, between the region's begin and a point in it. -/
structure StepR (φ φ' : Phi) (s : St) (hi : Nat) (w w' : World) : Prop where
  le : φ.le φ'
  new : ∀ b e l, φ' b e = some l → φ b e = some l ∨ (s.size ≤ b ∧ b < hi ∧ w.heap.size ≤ l.c) ∨ (∃ e0 l0, φ b e0 = some l0 ∧ isMut (s.get b) = true ∧ (l0.c = l.c ∨ w.heap.size ≤ l.c))
  os : w'.os = w.os
  tape : w'.tape = w.tape
  output : w'.output = w.output
  wsize : w.heap.size ≤ w'.heap.size
  frm : ∀ c, c < w.heap.size → (∀ b e l, φ b e = some l → l.c = c → isMut (s.get b) = false) → w'.heap[c]? = w.heap[c]?
theorem StepR.then {φ0 φ φ' : Phi} {s0 s s' : St} {hi : Nat} {w0 w w' : World} (h : StepR φ0 φ s0 hi w0 w) (k : Step φ φ' s s' w w') (hf : Fresh φ0 s0.size hi)
    (hin : ∀ b, s.size ≤ b → b < s'.size → s0.size ≤ b ∧ b < hi) (hm : ∀ b, isMut (s.get b) = true → isMut (s0.get b) = true ∨ (s0.size ≤ b ∧ b < hi)) : StepR φ0 φ' s0 hi w0 w' := by
  refine ⟨fun b e l hb => k.le _ _ _ (h.le _ _ _ hb), fun b e l hb => ?_, k.os.trans h.os, k.tape.trans h.tape, k.output.trans h.output, Nat.le_trans h.wsize k.wsize, fun c hc hcm => ?_⟩
  · have hw := h.wsize
    rcases k.new b e l hb with h3 | ⟨h3, h4, h5⟩ | ⟨e0, l0, h3, h4, h5⟩
    · exact h.new b e l h3
    · obtain ⟨g1, g2⟩ := hin b h3 h4
      exact .inr (.inl ⟨g1, g2, by omega⟩)
    · rcases h.new b e0 l0 h3 with h6 | ⟨h6, h7, h8⟩ | ⟨e1, l1, h6, h7, h8⟩
      · rcases hm b h4 with g | ⟨g1, g2⟩
        · exact .inr (.inr ⟨e0, l0, h6, g, by rcases h5 with h5 | h5; exact .inl h5; exact .inr (by omega)⟩)
        · rw [hf b e0 g1 g2] at h6; cases h6
      · exact .inr (.inl ⟨h6, h7, by rcases h5 with h5 | h5; rw [← h5]; exact h8; omega⟩)
      · refine .inr (.inr ⟨e1, l1, h6, h7, ?_⟩)
        rcases h5 with h5 | h5
        · rw [← h5]; exact h8
        · exact .inr (by omega)
  · have hw := h.wsize
    rw [k.frm c (by omega) ?_, h.frm c hc hcm]
    intro b e l hb hl
    cases hmb : isMut (s.get b) with
    | false => rfl
    | true =>
      exfalso
      rcases h.new b e l hb with h6 | ⟨h6, h7, h8⟩ | ⟨e1, l1, h6, h7, h8⟩
      · rcases hm b hmb with g | ⟨g1, g2⟩
        · rw [hcm b e l h6 hl] at g; cases g
        · rw [hf b e g1 g2] at h6; cases h6
      · omega
      · rcases h8 with h8 | h8
        · rw [hcm b e1 l1 h6 (by rw [h8]; exact hl)] at h7; cases h7
        · omega

section
variable {X : Prg} {P : Program} (H : SoundF X P) {call : Caller} (HC : CallOk X P call)
variable {L : List Oper} {ρ0 : Env} {s0 : St} {T : Env} {s1 : St} {R : Nat → Env} {S : Nat → St}
variable (HT : Tr2 call X L.toArray L ρ0 s0 T s1 (trace call X L.toArray L ρ0 s0) R S) (HS : Stat X L)

include HC HT in
theorem keep_step {i : Nat} (hi : i < L.length) : Keep (S i) (S (i + 1)) := by
  rcases HT.step i _ (List.getElem?_eq_getElem hi) with ⟨_, v, h1, _⟩ | ⟨_, h1, _⟩
  · exact stepOp_keep HC h1
  · rw [h1]; exact Keep.refl _
include HC HT in
theorem keep_le : ∀ {i k : Nat}, i ≤ k → k ≤ L.length → Keep (S i) (S k) := by
  intro i k hik
  induction k with
  | zero => intro _; obtain rfl : i = 0 := by omega
            exact Keep.refl _
  | succ k ih =>
    intro hk
    by_cases h : i = k + 1
    · subst h; exact Keep.refl _
    · exact (ih (by omega) (by omega)).trans (keep_step HC HT (by omega))
include HT in
theorem quiet_step {i : Nat} (hi : i < L.length) (he : eff L i = false) : S (i + 1) = S i ∨ ∃ o, S (i + 1) = (S i).push o := by
  have ho := List.getElem?_eq_getElem hi
  rw [eff_some ho] at he
  rcases HT.step i _ ho with ⟨_, v, h1, _⟩ | ⟨_, h1, _⟩
  · rw [stepOp_quiet he] at h1
    rcases aop_quiet h1 he with ⟨_, h2⟩ | ⟨_, o, h2, _⟩
    · exact .inl h2
    · exact .inr ⟨o, h2⟩
  · exact .inl h1
include HC HT in
theorem quiet_get : ∀ {p q : Nat}, p ≤ q → q ≤ L.length → (∀ j, p ≤ j → j < q → eff L j = false) → ∀ x, x < (S p).size → (S q).get x = (S p).get x := by
  intro p q hpq
  induction q with
  | zero => intro _ _ x _; obtain rfl : p = 0 := by omega
            rfl
  | succ q ih =>
    intro hq hn x hx
    by_cases h : p = q + 1
    · subst h; rfl
    · have h1 := ih (by omega) (by omega) (fun j h1 h2 => hn j h1 (by omega)) x hx
      have h2 := (keep_le HC HT (show p ≤ q by omega) (by omega)).1
      rcases quiet_step HT (show q < L.length by omega) (hn q (by omega) (by omega)) with h3 | ⟨o, h3⟩
      · rw [h3, h1]
      · rw [h3, St.get_push, if_neg (by omega), h1]

open Classical in
/-- What a block was when it was made. -/
noncomputable def Z (L : List Oper) (S : Nat → St) (x : Nat) : Option AObj :=
  if h : ∃ i, i < L.length ∧ (S i).size ≤ x ∧ x < (S (i + 1)).size then (S (Classical.choose h + 1)).get x else none
include HC HT in
theorem Z_eq {i x : Nat} (hi : i < L.length) (h1 : (S i).size ≤ x) (h2 : x < (S (i + 1)).size) : Z L S x = (S (i + 1)).get x := by
  have h : ∃ i, i < L.length ∧ (S i).size ≤ x ∧ x < (S (i + 1)).size := ⟨i, hi, h1, h2⟩
  unfold Z
  rw [dif_pos h]
  obtain ⟨g1, g2, g3⟩ := Classical.choose_spec h
  have : Classical.choose h = i := by
    rcases Nat.lt_trichotomy (Classical.choose h) i with hlt | heq | hgt
    · have := (keep_le HC HT (show Classical.choose h + 1 ≤ i by omega) (by omega)).1; omega
    · exact heq
    · have := (keep_le HC HT (show i + 1 ≤ Classical.choose h by omega) (by omega)).1; omega
  rw [this]
noncomputable def G (L : List Oper) (S : Nat → St) (q x : Nat) : Option AObj := if x < (S q).size then (S q).get x else Z L S x

include HT in
theorem R_keep : ∀ {i k : Nat} (t : Nat), i ≤ k → k ≤ L.length → (∀ j p, i ≤ j → j < k → L[j]? = some p → p.dst ≠ some t) → (R k).get t = (R i).get t := by
  intro i k t hik
  induction k with
  | zero => intro _ _; obtain rfl : i = 0 := by omega
            rfl
  | succ k ih =>
    intro hk hn
    by_cases h : i = k + 1
    · subst h; rfl
    · have ho := List.getElem?_eq_getElem (show k < L.length by omega)
      have hd := hn k _ (by omega) (by omega) ho
      have : ∀ v, ((R k).put L[k].dst v).get t = (R k).get t := by
        intro v
        cases hdst : L[k].dst with
        | none => rfl
        | some d =>
          simp only [Env.put, Env.get_set]
          rw [if_neg]
          intro he; subst he; exact hd hdst
      rw [← ih (by omega) (by omega) fun j p h1 h2 => hn j p h1 (by omega)]
      rcases HT.step k _ ho with ⟨_, v, _, h1⟩ | ⟨_, _, h1⟩ <;> rw [h1] <;> exact this _

structure DInv (X : Prg) (L : List Oper) (ρ0 : Env) (s0 : St) (T : Env) (s1 : St) (S : Nat → St) (φ0 : Phi) (a0 : Act) (w0 : World) (b : Nat → Bool) (a : Act) (w : World) (φ : Phi) (q : Nat) : Prop where
  cl : ∀ (j : Nat) (o : Oper), L[j]? = some o → b j = true → ∀ e ∈ o.after.toList, plainEdge e = true → b e.on = true
  qn : q ≤ L.length
  qlo : ∀ j, j < q → eff L j = true → b j = true
  qhi : ∀ j, q ≤ j → eff L j = true → b j = false
  qat : q < L.length → eff L q = true
  env1 : ∀ (j : Nat) (o : Oper) (d : Nat), L[j]? = some o → o.dst = some d → b j = true → VRel φ (T.get d) (a.tmps.getD d undef)
  env2 : ∀ t, (∀ (j : Nat) (o : Oper), L[j]? = some o → o.dst = some t → b j = false) → VRel φ (ρ0.get t) (a.tmps.getD t undef)
  tsz : a.tmps.size = a0.tmps.size
  tdf : a.defers = a0.defers
  srel : SRel X φ (G L S q) w
  fr : ∀ i, i < L.length → b i = false → Fresh φ (S i).size (S (i + 1)).size
  st : StepR φ0 φ s0 s1.size w0 w

def upb (b : Nat → Bool) (i : Nat) : Nat → Bool := fun j => if j = i then true else b j

variable {φ0 : Phi} {a0 : Act} {w0 : World}
include HC HT HS in
/-- Behind an operation. -/
theorem dinv_step {n : Nat} {b : Nat → Bool} {a : Act} {w : World} {φ : Phi} {q : Nat} (hI : DInv X L ρ0 s0 T s1 S φ0 a0 w0 b a w φ q) (hf0 : Fresh φ0 s0.size s1.size) (hn : n ≤ a0.tmps.size) {i : Nat} {o : Oper} (hi : L[i]? = some o) (hb : b i = false) (hok : operOk X n o = true)
    (hready : ∀ e ∈ o.after.toList, plainEdge e = true → b e.on = true)
    {q' : Nat} (hq1 : q' ≤ L.length) (hq2 : ∀ j, j < q' → eff L j = true → upb b i j = true) (hq3 : ∀ j, q' ≤ j → eff L j = true → upb b i j = false) (hq4 : q' < L.length → eff L q' = true)
    {φ' : Phi} {v' : Value} {w' : World} (hv : ∀ d, o.dst = some d → VRel φ' (T.get d) v') (hs : SRel X φ' (G L S q') w') {s s' : St} (hst : Step φ φ' s s' w w')
    (hin : ∀ x, s.size ≤ x → x < s'.size → (S i).size ≤ x ∧ x < (S (i + 1)).size) (hm : ∀ x, isMut (s.get x) = true → isMut (s0.get x) = true ∨ (s0.size ≤ x ∧ x < s1.size)) :
    DInv X L ρ0 s0 T s1 S φ0 a0 w0 (upb b i) (a.put o.dst v') w' φ' q' := by
  have hil : i < L.length := (List.getElem?_eq_some_iff.1 hi).1
  have hdst : ∀ d, o.dst = some d → d < a.tmps.size := fun d hd => by
    unfold operOk at hok
    rw [Bool.and_eq_true] at hok
    have := hok.2
    rw [hd] at this
    have h2 : d < n := of_decide_eq_true this
    rw [hI.tsz]
    exact Nat.lt_of_lt_of_le h2 hn
  have hput : ∀ t, o.dst ≠ some t → (a.put o.dst v').tmps.getD t undef = a.tmps.getD t undef := by
    intro t ht
    cases hd : o.dst with
    | none => rfl
    | some d =>
      have hne : d ≠ t := fun h => ht (by rw [hd, h])
      simp [Act.put, Array.getElem?_setIfInBounds, hne]
  refine ⟨?_, hq1, hq2, hq3, hq4, ?_, ?_, by rw [put_size]; exact hI.tsz, by rw [put_defers]; exact hI.tdf, hs, ?_, ?_⟩
  · intro j p hj hbj e he hpe
    unfold upb at hbj ⊢
    split
    · rfl
    · split at hbj
      · rename_i hji; subst hji
        rw [hi] at hj; cases hj
        exact hready e he hpe
      · exact hI.cl j p hj hbj e he hpe
  · intro j p d hj hd hbj
    unfold upb at hbj
    split at hbj
    · rename_i hji; subst hji
      rw [hi] at hj; cases hj
      have := hdst d hd
      have e1 : (a.put o.dst v').tmps.getD d undef = v' := by rw [hd]; simp [Act.put, this]
      rw [e1]
      exact hv d hd
    · rename_i hji
      rw [hput d (HS.dst i j o p d hi hj hji hd)]
      exact (hI.env1 j p d hj hd hbj).mono hst.le
  · intro t ht
    have hne : o.dst ≠ some t := by
      intro hd
      have := ht i o hi hd
      unfold upb at this
      rw [if_pos rfl] at this
      cases this
    rw [hput t hne]
    refine (hI.env2 t fun j p hj hd => ?_).mono hst.le
    have := ht j p hj hd
    unfold upb at this
    split at this
    · cases this
    · exact this
  · intro j hj hbj
    have hji : j ≠ i := by
      intro h
      unfold upb at hbj
      rw [if_pos h] at hbj; cases hbj
    have hbj' : b j = false := by unfold upb at hbj; rwa [if_neg hji] at hbj
    have hfj := hI.fr j hj hbj'
    intro x e h1 h2
    cases hx : φ' x e with
    | none => rfl
    | some l =>
      exfalso
      rcases hst.new x e l hx with h3 | ⟨h3, h4, _⟩ | ⟨e0, l0, h3, _⟩
      · rw [hfj x e h1 h2] at h3; cases h3
      · obtain ⟨g1, g2⟩ := hin x h3 h4
        rcases Nat.lt_or_ge j i with hlt | hge
        · have := (keep_le HC HT (show j + 1 ≤ i by omega) (by omega)).1; omega
        · have := (keep_le HC HT (show i + 1 ≤ j by omega) (by omega)).1; omega
      · rw [hfj x e0 h1 h2] at h3; cases h3
  · refine hI.st.then hst hf0 (fun x h1 h2 => ?_) hm
    obtain ⟨g1, g2⟩ := hin x h1 h2
    have k1 := (keep_le HC HT (show 0 ≤ i by omega) (by omega)).1
    have k2 := (keep_le HC HT (show i + 1 ≤ L.length by omega) (Nat.le_refl _)).1
    rw [HT.s0] at k1
    rw [HT.sn] at k2
    omega

omit HC in
theorem next_eff (L : List Oper) : ∀ (m p : Nat), L.length - p = m → p ≤ L.length → ∃ q, p ≤ q ∧ q ≤ L.length ∧ (∀ j, p ≤ j → j < q → eff L j = false) ∧ (q < L.length → eff L q = true) := by
  intro m
  induction m with
  | zero => intro p hm hp; exact ⟨p, Nat.le_refl _, hp, fun j h1 h2 => by omega, fun h => by omega⟩
  | succ m ih =>
    intro p hm hp
    cases he : eff L p with
    | true => exact ⟨p, Nat.le_refl _, hp, fun j h1 h2 => by omega, fun _ => he⟩
    | false =>
      obtain ⟨q, h1, h2, h3, h4⟩ := ih (p + 1) (by omega) (by omega)
      refine ⟨q, by omega, h2, fun j h5 h6 => ?_, h4⟩
      by_cases hj : j = p
      · subst hj; exact he
      · exact h3 j (by omega) h6
omit HC in
theorem last_eff (L : List Oper) : ∀ (q p : Nat), p ≤ q → (∀ j, p ≤ j → j < q → eff L j = false) ∨ ∃ j, p ≤ j ∧ j < q ∧ eff L j = true ∧ ∀ k, j + 1 ≤ k → k < q → eff L k = false := by
  intro q
  induction q with
  | zero => intro p h; exact .inl fun j h1 h2 => by omega
  | succ q ih =>
    intro p h
    by_cases hp : p = q + 1
    · exact .inl fun j h1 h2 => by omega
    · cases he : eff L q with
      | true => exact .inr ⟨q, by omega, by omega, he, fun k h1 h2 => by omega⟩
      | false =>
        rcases ih p (by omega) with h1 | ⟨j, h1, h2, h3, h4⟩
        · refine .inl fun j h2 h3 => ?_
          by_cases hj : j = q
          · subst hj; exact he
          · exact h1 j h2 (by omega)
        · refine .inr ⟨j, h1, by omega, h3, fun k h5 h6 => ?_⟩
          by_cases hk : k = q
          · subst hk; exact he
          · exact h4 k h5 (by omega)

omit HC in
/-- The store's image behind a step that a store of fewer blocks takes. -/
theorem srel_ext {φ φ' : Phi} {g g' : Nat → Option AObj} {s s' : St} {w w' : World} (h : SRel X φ g w) (h' : SRel X φ' s'.get w') (hst : Step φ φ' s s' w w') (hg : ∀ x, x < s.size → g x = s.get x)
    (h1 : ∀ x, x < s'.size → g' x = s'.get x) (h2 : ∀ x, s'.size ≤ x → g' x = g x) : SRel X φ' g' w' := by
  have hsz := hst.size
  have old : ∀ x e l, s'.size ≤ x → φ' x e = some l → φ x e = some l := by
    intro x e l hx hl
    rcases hst.new x e l hl with h3 | ⟨_, h4, _⟩ | ⟨e0, l0, _, h4, _⟩
    · exact h3
    · omega
    · rw [St.get_ge (by omega)] at h4; cases h4
  refine ⟨fun x e l hx o ho => ?_, h'.lt, fun b1 e1 l1 b2 e2 l2 k1 k2 hne hm => ?_⟩
  · by_cases hlt : x < s'.size
    · rw [h1 x hlt] at ho
      exact h'.obj x e l hx o ho
    · have hlt : s'.size ≤ x := by omega
      rw [h2 x hlt] at ho
      have hx0 := old x e l hlt hx
      refine (h.obj x e l hx0 o ho).world hst.le (hst.frm _ (h.lt _ _ _ hx0) fun b e' l' hb hl => ?_)
      cases hmb : isMut (s.get b) with
      | false => rfl
      | true =>
        exfalso
        have hbs : b < s.size := by
          rcases Nat.lt_or_ge b s.size with h3 | h3
          · exact h3
          · rw [St.get_ge h3] at hmb; cases hmb
        exact h.sep b e' l' x e l hb hx0 (by omega) (by rw [hg b hbs]; exact hmb) hl
  · by_cases hlt : b1 < s'.size
    · rw [h1 b1 hlt] at hm
      exact h'.sep _ _ _ _ _ _ k1 k2 hne hm
    · have hlt : s'.size ≤ b1 := by omega
      rw [h2 b1 hlt] at hm
      have k1' := old b1 e1 l1 hlt k1
      have := h.lt _ _ _ k1'
      rcases hst.new b2 e2 l2 k2 with h3 | ⟨h3, h4, h5⟩ | ⟨e0, l0, h3, h4, h5⟩
      · exact h.sep _ _ _ _ _ _ k1' h3 hne hm
      · omega
      · have := h.sep _ _ _ _ _ _ k1' h3 hne hm
        rcases h5 with h5 | h5 <;> omega
omit HC in
theorem srel_new {φ φ' : Phi} {g : Nat → Option AObj} {s : St} {o : AObj} {w w' : World} (h : SRel X φ g w) (h' : SRel X φ' (s.push o).get w') (hst : Step φ φ' s (s.push o) w w') (hn : ∀ x, s.get x = none) (hf : ∀ e, φ s.size e = none) (hg : g s.size = some o) : SRel X φ' g w' := by
  have old : ∀ x e l, x ≠ s.size → φ' x e = some l → φ x e = some l := by
    intro x e l hx hl
    rcases hst.new x e l hl with h3 | ⟨h3, h4, _⟩ | ⟨e0, l0, _, h4, _⟩
    · exact h3
    · simp only [St.size_push] at h4; omega
    · rw [hn] at h4; cases h4
  have hself : (s.push o).get s.size = some o := by rw [St.get_push, if_pos rfl]
  refine ⟨fun x e l hx o1 ho => ?_, h'.lt, fun b1 e1 l1 b2 e2 l2 k1 k2 hne hm => ?_⟩
  · by_cases hxs : x = s.size
    · subst hxs
      rw [hg] at ho
      exact h'.obj _ e l hx o1 (by rw [hself]; exact ho)
    · have hx0 := old x e l hxs hx
      exact (h.obj x e l hx0 o1 ho).world hst.le (hst.frm _ (h.lt _ _ _ hx0) fun b e' l' hb hl => by rw [hn]; rfl)
  · by_cases h1 : b1 = s.size
    · subst h1
      exact h'.sep _ _ _ _ _ _ k1 k2 hne (by rw [hself]; rw [hg] at hm; exact hm)
    · have k1' := old b1 e1 l1 h1 k1
      have := h.lt _ _ _ k1'
      by_cases h2 : b2 = s.size
      · subst h2
        rcases hst.new _ e2 l2 k2 with h3 | ⟨h3, h4, h5⟩ | ⟨e0, l0, _, h4, _⟩
        · rw [hf] at h3; cases h3
        · omega
        · rw [hn] at h4; cases h4
      · exact h.sep _ _ _ _ _ _ k1' (old b2 e2 l2 h2 k2) hne hm
end
end Go.Proofs.Ytndedkpcfjnecaa.Ab
