/- Regions whose order is open: each operation that may come up. -/
import Derived.Test.YtndedkpcfjnecaaA13
set_option linter.unusedSimpArgs false
set_option linter.unusedVariables false
namespace Go.Proofs.Ytndedkpcfjnecaa.Ab

section
variable {X : Prg} {P : Program} (H : SoundF X P) {call : Caller} (HC : CallOk X P call)
variable {L : List Oper} {ρ0 : Env} {s0 : St} {T : Env} {s1 : St} {R : Nat → Env} {S : Nat → St}
variable (HT : Tr2 call X L.toArray L ρ0 s0 T s1 (trace call X L.toArray L ρ0 s0) R S) (HS : Stat X L) (HR : readsOk X L T (trace call X L.toArray L ρ0 s0) = true)
variable {φ0 : Phi} {a0 : Act} {w0 : World}

include HS in
theorem ready_bits {b : Nat → Bool} (hc : ∀ (j : Nat) (o : Oper), L[j]? = some o → b j = true → ∀ e ∈ o.after.toList, plainEdge e = true → b e.on = true) {i : Nat} {o : Oper} (hi : L[i]? = some o)
    (hready : ∀ e ∈ o.after.toList, plainEdge e = true → b e.on = true) {j : Nat} (h : ((befs L).getD i 0).testBit j = true) : b j = true := by
  have hil : i < L.length := (List.getElem?_eq_some_iff.1 hi).1
  obtain ⟨e, he, hp, h1⟩ := befs_step hi h
  have hb := hready e he hp
  rcases h1 with h1 | ⟨h1, h2⟩
  · rw [← h1]; exact hb
  · exact bit_closed HS hc e.on j h2 (by omega) hb

include HT HS in
theorem env_at {b : Nat → Bool} {a : Act} {w : World} {φ : Phi} {q : Nat} (hI : DInv X L ρ0 s0 T s1 S φ0 a0 w0 b a w φ q) {i : Nat} {o : Oper} (hi : L[i]? = some o) (hb : b i = false)
    (hready : ∀ e ∈ o.after.toList, plainEdge e = true → b e.on = true) {t : Nat} (ht : t ∈ looks L o) : VRel φ ((R i).get t) (a.tmps.getD t undef) := by
  have hil : i < L.length := (List.getElem?_eq_some_iff.1 hi).1
  by_cases hex : ∃ (j : Nat) (p : Oper), j ≠ i ∧ L[j]? = some p ∧ p.dst = some t
  · obtain ⟨j, p, hji, hj, hd⟩ := hex
    have hjl : j < L.length := (List.getElem?_eq_some_iff.1 hj).1
    have uniq : ∀ (k : Nat) (p' : Oper), k ≠ j → L[k]? = some p' → p'.dst ≠ some t := fun k p' hk hp' => HS.dst k j p' p t hp' hj (Ne.symm hk) hd
    rcases HS.looks i j o p t hi hj hji hd ht with h1 | h1
    · have hlt := bit_lt HS i j h1 hil
      have hbj := ready_bits HS hI.cl hi hready h1
      have e1 : T.get t = (R i).get t := by
        rw [← HT.rn]
        exact R_keep HT t (by omega) (Nat.le_refl _) fun k p' h2 h3 h4 => uniq k p' (by omega) h4
      rw [← e1]
      exact hI.env1 j p t hj hd hbj
    · have hlt := bit_lt HS j i h1 hjl
      have hbj : b j = false := by
        cases h2 : b j with
        | false => rfl
        | true => rw [bit_closed HS hI.cl j i h1 hjl h2] at hb; cases hb
      have e1 : (R i).get t = ρ0.get t := by
        rw [← HT.r0]
        exact R_keep HT t (by omega) (by omega) fun k p' h2 h3 h4 => uniq k p' (by omega) h4
      rw [e1]
      refine hI.env2 t fun k p' hk hkd => ?_
      by_cases hkj : k = j
      · subst hkj; exact hbj
      · exact absurd hkd (uniq k p' hkj hk)
  · have none : ∀ (k : Nat) (p' : Oper), k ≠ i → L[k]? = some p' → p'.dst ≠ some t := fun k p' hk hp' hd => hex ⟨k, p', hk, hp', hd⟩
    have e1 : (R i).get t = ρ0.get t := by
      rw [← HT.r0]
      exact R_keep HT t (by omega) (by omega) fun k p' h2 h3 h4 => none k p' (by omega) h4
    rw [e1]
    refine hI.env2 t fun k p' hk hkd => ?_
    by_cases hki : k = i
    · subst hki; exact hb
    · exact absurd hkd (none k p' hki hk)

include HT HC in
theorem muts {i x : Nat} (hi : i ≤ L.length) (h : isMut ((S i).get x) = true) : isMut (s0.get x) = true ∨ (s0.size ≤ x ∧ x < s1.size) := by
  have k1 := keep_le HC HT (Nat.zero_le i) hi
  have k2 := keep_le HC HT hi (Nat.le_refl _)
  rw [HT.s0] at k1
  rw [HT.sn] at k2
  have hx : x < (S i).size := by
    rcases Nat.lt_or_ge x (S i).size with h1 | h1
    · exact h1
    · rw [St.get_ge h1] at h; cases h
  by_cases h0 : x < s0.size
  · left; rw [← k1.2 x h0]; exact h
  · right; have := k2.1; omega

include HT HC in
theorem G_at {p q : Nat} (hpq : p ≤ q) (hq : q ≤ L.length) (hn : ∀ j, p ≤ j → j < q → eff L j = false) {x : Nat} (hx : x < (S p).size) : G L S q x = (S p).get x := by
  have k := (keep_le HC HT hpq hq).1
  unfold G
  rw [if_pos (by omega)]
  exact quiet_get HC HT hpq hq hn x hx
/-- The first number behind which a block was there. -/
theorem born {p q : Nat} (hpq : p ≤ q) (hq : q ≤ L.length) {x : Nat} (h1 : (S p).size ≤ x) (h2 : x < (S q).size) : ∃ i, p ≤ i ∧ i < q ∧ (S i).size ≤ x ∧ x < (S (i + 1)).size := by
  induction q with
  | zero => obtain rfl : p = 0 := by omega
            omega
  | succ q ih =>
    by_cases h : p = q + 1
    · subst h; omega
    · by_cases h3 : x < (S q).size
      · obtain ⟨i, g1, g2, g3⟩ := ih (by omega) (by omega) h3
        exact ⟨i, g1, by omega, g3⟩
      · exact ⟨q, by omega, by omega, by omega, h2⟩
include HT HC in
/-- Behind an effect the image speaks of other effects; what was made stays what it was. -/
theorem G_move {p q q' : Nat} (hqp : q ≤ p) (hpq : p ≤ q') (hq : q' ≤ L.length) (hn : ∀ j, p ≤ j → j < q' → eff L j = false) {x : Nat} (hx : (S p).size ≤ x) (hqx : (S q).size ≤ x) : G L S q' x = G L S q x := by
  unfold G
  rw [if_neg (show ¬ x < (S q).size by omega)]
  split
  · rename_i hlt
    obtain ⟨i, g1, g2, g3, g4⟩ := born hpq hq hx hlt
    rw [Z_eq HC HT (by omega) g3 g4]
    exact quiet_get HC HT (show i + 1 ≤ q' by omega) hq (fun j h1 h2 => hn j (by omega) h2) x g4
  · rfl

include H HC HT HS HR in
theorem dinv_ready {n : Nat} {b : Nat → Bool} {a : Act} {w : World} {φ : Phi} {q : Nat} {Q : Exit → Act → World → Prop} (hI : DInv X L ρ0 s0 T s1 S φ0 a0 w0 b a w φ q) (hf0 : Fresh φ0 s0.size s1.size) (hg0 : GlobOk X φ0) (hn : n ≤ a0.tmps.size) {i : Nat} {o : Oper} (hi : L[i]? = some o) (hb : b i = false)
    (hok : operOk X n o = true) (hready : ∀ e ∈ o.after.toList, plainEdge e = true → b e.on = true) (K : Act → World → Prop)
    (hK : ∀ a' w' φ' q', DInv X L ρ0 s0 T s1 S φ0 a0 w0 (upb b i) a' w' φ' q' → K a' w') :
    if Region.wanted o (yielded L.toArray a.tmps) then o.wp P a w K Q else K (a.put o.dst undef) w := by
  have hil : i < L.length := (List.getElem?_eq_some_iff.1 hi).1
  have hg : GlobOk X φ := hg0.mono hI.st.le
  have hat : ∀ t, t ∈ looks L o → VRel φ ((R i).get t) (a.tmps.getD t undef) := fun t ht => env_at HT HS hI hi hb hready ht
  have hopd : ∀ x ∈ o.op.operands, VRel φ (evo (R i) x) (a.eval x) := fun x hx => by
    have hx2 : opdOk X x = true := by
      unfold operOk at hok
      rw [Bool.and_eq_true, List.all_eq_true] at hok
      exact hok.1 x (Array.mem_toList_iff.2 hx)
    cases x with
    | tmp t =>
      refine hat t ?_
      unfold looks
      rw [List.mem_append]
      left
      rw [List.mem_filterMap]
      exact ⟨.tmp t, Array.mem_toList_iff.2 hx, rfl⟩
    | const v => exact VRel.cst 4 v hx2
    | global g =>
      obtain ⟨l, h1, h2, h3⟩ := hg g hx2
      have := VRel.ptr (φ := φ) ⟨g, 0, none⟩ l h1
      rw [h2, h3] at this
      exact this
    | func f => exact .func _ _ _ _ _ .nil .nil
  have hwant : Region.wanted o (yielded L.toArray a.tmps) = wantedE L.toArray o (R i) := by
    refine wanted_rel _ _ fun j want d hgd hd => hat d ?_
    unfold looks
    rw [List.mem_append]
    right
    rw [hgd]
    simp only [List.getElem?_toArray] at hd
    simp only [hd, List.mem_singleton]
  have hdT : ∀ v, (R (i + 1)) = (R i).put o.dst v → ∀ d, o.dst = some d → T.get d = v := fun v hv d hd => by
    rw [← HT.rn, R_keep HT d (show i + 1 ≤ L.length by omega) (Nat.le_refl _) fun k p h1 h2 h3 => HS.dst k i p o d h3 hi (by omega) hd, hv, hd]
    simp [Env.put, Env.get_set]
  have weak : ∀ p, p ≤ q → (∀ j, p ≤ j → j < q → eff L j = false) → SRel X φ (S p).get w := fun p hp hnp =>
    hI.srel.weaken fun x e l _ => by
      by_cases hx : x < (S p).size
      · right; exact (G_at HC HT hp hI.qn hnp hx).symm
      · left; exact St.get_ge (by omega)
  rw [hwant]
  cases he : eff L i with
  | true =>
    -- the next of those that write or call
    have hqi : q ≤ i := by
      rcases Nat.lt_or_ge i q with h | h
      · rw [hI.qlo i h he] at hb; cases hb
      · exact h
    have hqeq : q = i := by
      rcases Nat.lt_or_ge q i with h | h
      · exfalso
        have hql : q < L.length := by omega
        have hqe := hI.qat hql
        have hqo := List.getElem?_eq_getElem hql
        have hbq := hI.qhi q (Nat.le_refl _) hqe
        rcases HS.eff i q o L[q] hi hqo (by omega) (by rw [← eff_some hi]; exact he) (by rw [← eff_some hqo]; exact hqe) with h1 | h1
        · rw [ready_bits HS hI.cl hi hready h1] at hbq; cases hbq
        · have := bit_lt HS q i h1 hql; omega
      · omega
    subst hqeq
    obtain ⟨q', g1, g2, g3, g4⟩ := next_eff L _ (q + 1) rfl (by omega)
    have hq2 : ∀ j, j < q' → eff L j = true → upb b q j = true := fun j hj hej => by
      unfold upb
      split
      · rfl
      · rename_i hne
        rcases Nat.lt_or_ge j q with h | h
        · exact hI.qlo j h hej
        · rw [g3 j (by omega) hj] at hej; cases hej
    have hq3 : ∀ j, q' ≤ j → eff L j = true → upb b q j = false := fun j hj hej => by
      unfold upb
      rw [if_neg (by omega)]
      exact hI.qhi j (by omega) hej
    have hsr := weak q (Nat.le_refl _) fun j h1 h2 => by omega
    have hG : ∀ x, x < (S q).size → G L S q x = (S q).get x := fun x hx => by unfold G; rw [if_pos hx]
    have finish : ∀ φ' v' w' v, R (q + 1) = (R q).put o.dst v → VRel φ' v v' → SRel X φ' (S (q + 1)).get w' → Step φ φ' (S q) (S (q + 1)) w w' → K (a.put o.dst v') w' := by
      intro φ' v' w' v hv hvv hs hst
      refine hK _ _ φ' q' (dinv_step HC HT HS hI hf0 hn hi hb hok hready g2 hq2 hq3 g4 (fun d hd => by rw [hdT v hv d hd]; exact hvv) ?_ hst (fun x h1 h2 => ⟨h1, h2⟩) fun x hm => muts HC HT (by omega) hm)
      have ksz := (keep_step HC HT hil).1
      refine srel_ext hI.srel hs hst hG (fun x hx => G_at HC HT g1 g2 g3 hx) fun x hx => G_move HC HT (by omega) g1 g2 g3 hx (by omega)
    rcases HT.step q o hi with ⟨hw, v, h1, h2⟩ | ⟨hw, h1, h2⟩
    · rw [if_pos hw]
      exact stepOp_sound H.toSound HC h1 hopd hg hsr (hI.fr q hil hb) K fun φ' v' w' q1 q2 q3 => finish φ' v' w' v h2 q1 q2 q3
    · rw [if_neg (by rw [hw]; simp)]
      refine finish φ undef w undef h2 (.tuple _ _ .nil) (by rw [h1]; exact hsr) (by rw [h1]; exact Step.refl _ _ _)
  | false =>
    have hq2 : ∀ j, j < q → eff L j = true → upb b i j = true := fun j hj hej => by
      unfold upb
      split
      · rfl
      · exact hI.qlo j hj hej
    have hq3 : ∀ j, q ≤ j → eff L j = true → upb b i j = false := fun j hj hej => by
      unfold upb
      rw [if_neg (by intro h; subst h; rw [he] at hej; cases hej)]
      exact hI.qhi j hj hej
    have heo : isEff o.op = false := by rw [← eff_some hi]; exact he
    rcases HT.step i o hi with ⟨hw, v, h1, h2⟩ | ⟨hw, h1, h2⟩
    · rw [if_pos hw]
      rw [stepOp_quiet heo] at h1
      rcases aop_quiet h1 heo with ⟨hnew, hsame⟩ | ⟨hnew, o2, hpush, hany⟩
      · -- it only looks
        have key : ∃ p, p ≤ q ∧ (∀ j, p ≤ j → j < q → eff L j = false) ∧ ∃ v2, aop X (evo (R i)) o.op (S p) = some (v2, S p) ∧ ∀ d, o.dst = some d → T.get d = v2 := by
          have reads : ∀ j, j < L.length → eff L j = true → ((befs L).getD i 0).testBit j = false → ((befs L).getD j 0).testBit i = false → ∀ p, (trace call X L.toArray L ρ0 s0)[if j < i then j else j + 1]? = some (R p, S p) → ∃ v2, aop X (evo (R i)) o.op (S p) = some (v2, S p) ∧ ∀ d, o.dst = some d → T.get d = v2 := by
            intro j hj hej hb1 hb2 p hp
            have hjo := List.getElem?_eq_getElem hj
            have hej2 : isEff L[j].op = true := by rw [← eff_some hjo]; exact hej
            have h4 := readsOk_use HR hi (HT.tr i (by omega)) hjo heo hnew hej2 hb1 hb2 hw
            have h5 : sameAt X T o (R i) (some (R p, S p)) = true := by
              rw [← hp]
              have e1 : (if j < i then (trace call X L.toArray L ρ0 s0)[j]? else (trace call X L.toArray L ρ0 s0)[j + 1]?) = (trace call X L.toArray L ρ0 s0)[if j < i then j else j + 1]? := by split <;> rfl
              rw [← e1]
              exact h4
            unfold sameAt at h5
            simp only at h5
            split at h5
            · rename_i v2 s2 h6
              have h7 : s2 = S p := by
                rcases aop_quiet h6 heo with ⟨_, h8⟩ | ⟨h8, _⟩
                · exact h8
                · rw [hnew] at h8; cases h8
              subst h7
              refine ⟨v2, h6, fun d hd => ?_⟩
              rw [hd] at h5
              exact (aeq_eq h5).symm
            · cases h5
          have own : ∃ v2, aop X (evo (R i)) o.op (S i) = some (v2, S i) ∧ ∀ d, o.dst = some d → T.get d = v2 := by
            rw [hsame] at h1
            exact ⟨v, h1, fun d hd => hdT v h2 d hd⟩
          rcases Nat.lt_or_ge q i with hqi | hqi
          · have hql : q < L.length := by omega
            have hqe := hI.qat hql
            have hbq := hI.qhi q (Nat.le_refl _) hqe
            refine ⟨q, Nat.le_refl _, fun j h1 h2 => by omega, reads q hql hqe ?_ ?_ q ?_⟩
            · cases h3 : ((befs L).getD i 0).testBit q with
              | false => rfl
              | true => rw [ready_bits HS hI.cl hi hready h3] at hbq; cases hbq
            · cases h3 : ((befs L).getD q 0).testBit i with
              | false => rfl
              | true => have := bit_lt HS q i h3 hql; omega
            · rw [if_pos hqi]; exact HT.tr q (by omega)
          · rcases last_eff L q i hqi with h3 | ⟨j, h3, h4, h5, h6⟩
            · exact ⟨i, hqi, h3, own⟩
            · have hji : j ≠ i := by intro h; subst h; rw [he] at h5; cases h5
              have hjl : j < L.length := by have := hI.qn; omega
              have hbj := hI.qlo j h4 h5
              refine ⟨j + 1, by omega, h6, reads j hjl h5 ?_ ?_ (j + 1) ?_⟩
              · cases h7 : ((befs L).getD i 0).testBit j with
                | false => rfl
                | true => have := bit_lt HS i j h7 hil; omega
              · cases h7 : ((befs L).getD j 0).testBit i with
                | false => rfl
                | true => rw [bit_closed HS hI.cl j i h7 hjl hbj] at hb; cases hb
              · rw [if_neg (by omega)]; exact HT.tr (j + 1) (by omega)
        obtain ⟨p, hpq, hnp, v2, hv2, hd2⟩ := key
        have hsr := weak p hpq hnp
        have hpl : p ≤ L.length := by have := hI.qn; omega
        refine stepOp_sound H.toSound HC (by rw [stepOp_quiet heo]; exact hv2) hopd hg hsr (fun x e h3 h4 => by omega) K fun φ' v' w' q1 q2 q3 => ?_
        refine hK _ _ φ' q (dinv_step HC HT HS hI hf0 hn hi hb hok hready hI.qn hq2 hq3 hI.qat (fun d hd => by rw [hd2 d hd]; exact q1) ?_ q3 (fun x h3 h4 => by omega) fun x hm => muts HC HT hpl hm)
        exact srel_ext hI.srel q2 q3 (fun x hx => G_at HC HT hpq hI.qn hnp hx) (fun x hx => G_at HC HT hpq hI.qn hnp hx) fun x _ => rfl
      · -- it makes something
        have hsz : (S (i + 1)).size = (S i).size + 1 := by rw [hpush]; rfl
        have hany2 := hany ⟨(S i).size, .nil⟩ rfl
        have hnone : ∀ x, (⟨(S i).size, .nil⟩ : St).get x = none := fun x => by unfold St.get; split <;> rfl
        have hfr := hI.fr i hil hb
        rw [hsz] at hfr
        refine stepOp_sound H.toSound HC (by rw [stepOp_quiet heo]; exact hany2) hopd hg (hI.srel.weaken fun x e l _ => .inl (hnone x)) (by simpa [St.size_push] using hfr) K fun φ' v' w' q1 q2 q3 => ?_
        refine hK _ _ φ' q (dinv_step HC HT HS hI hf0 hn hi hb hok hready hI.qn hq2 hq3 hI.qat (fun d hd => by rw [hdT v h2 d hd]; exact q1) ?_ q3 (fun x h3 h4 => by simp only [St.size_push] at h3 h4; omega) fun x hm => by rw [hnone] at hm; cases hm)
        refine srel_new hI.srel q2 q3 hnone (fun e => hfr _ e (Nat.le_refl _) (by simp)) ?_
        have hself : (S (i + 1)).get (S i).size = some o2 := by rw [hpush, St.get_push, if_pos rfl]
        show G L S q (S i).size = some o2
        have hil1 : (S i).size < (S (i + 1)).size := by omega
        by_cases hlt : (S i).size < (S q).size
        · have hiq : i + 1 ≤ q := by
            rcases Nat.lt_or_ge i q with h | h
            · omega
            · have := (keep_le HC HT h (by omega)).1; omega
          rw [G_at HC HT hiq hI.qn (fun j h3 h4 => ?_) hil1, hself]
          cases hej : eff L j with
          | false => rfl
          | true =>
            exfalso
            have hjl : j < L.length := by have := hI.qn; omega
            have hjo := List.getElem?_eq_getElem hjl
            have h5 := HS.new j i L[j] o hjo hi (by omega) (by rw [← eff_some hjo]; exact hej) hnew
            rw [bit_closed HS hI.cl j i h5 hjl (hI.qlo j h4 hej)] at hb
            cases hb
        · unfold G
          rw [if_neg hlt, Z_eq HC HT hil (Nat.le_refl _) hil1, hself]
    · rw [if_neg (by rw [hw]; simp)]
      refine hK _ _ φ q (dinv_step HC HT HS hI hf0 hn hi hb hok hready hI.qn hq2 hq3 hI.qat (fun d hd => by rw [hdT undef h2 d hd]; exact .tuple _ _ .nil) hI.srel (Step.refl φ (S i) w) (fun x h3 h4 => by omega) fun x hm => muts HC HT (by omega) hm)
end
end Go.Proofs.Ytndedkpcfjnecaa.Ab
