/- Each operation on such values is the evaluator's: all. What a reading asks of the store. -/
import Derived.Test.YticllcglldbffaaD1
set_option linter.unusedSimpArgs false
set_option linter.unusedVariables false
set_option linter.unusedSectionVars false
section
namespace Go.Proofs.Yticllcglldbffaa.Ab
variable {X : Prg} {d : Wd} {vs : VS} {s : St}
theorem nilCheckA_sim {x : AV} {x' : Value} (hx : VR d x x') : SimV d (nilCheckA x) (nilCheckv x') := by
  intro v hv
  unfold nilCheckA at hv
  split at hv
  · cases hv
    cases hx with | ptr _ k hk => exact ⟨_, rfl, .ptr _ k hk⟩
  · cases hv
    cases hx with | fptr _ _ base a o ds h1 h2 h3 h4 => exact ⟨_, rfl, .fptr _ _ base a o ds h1 h2 h3 h4⟩
  · cases hv
    cases hx with | fn _ _ _ a' b' h1 h2 => exact ⟨_, rfl, .fn _ _ _ a' b' h1 h2⟩
  · cases hv
theorem fptr_fwd {cs : List AV} {off : Nat} {a : Addr} (h : VR d (.fptr cs off) (.pointer (some a))) (n : Nat) : VR d (.fptr cs (off + n)) (.pointer (some (Addr.fwd a n))) := by
  cases h with | fptr _ _ base _ o ds h1 h2 h3 h4 =>
  exact .fptr cs _ base _ o ds h1 (by show a.off + n = _; omega) h3 h4
theorem fieldAddrA_sim {x : AV} {x' : Value} (hx : VR d x x') (t : TypeId) (f : Nat) : SimV d (fieldAddrA X t x f) (fieldAddrv X t x' f) := by
  intro v hv
  unfold fieldAddrA at hv
  unfold fieldAddrv
  split at hv
  · rename_i fs hu
    split at hv
    · rename_i fd hf
      split at hv
      · rename_i ty ht
        split at hv
        · rename_i hz
          split at hv
          · cases hv
            cases hx with | ptr _ k hk =>
            simp only [hu, hf, ht]
            rw [if_pos hz]
            exact ⟨_, rfl, .ptr (Addr.fwd _ _) k hk⟩
          · cases hv
            cases x' with
            | pointer a =>
              cases a with
              | none => cases hx
              | some a =>
                simp only [hu, hf, ht]
                rw [if_pos hz]
                exact ⟨_, rfl, fptr_fwd hx _⟩
            | _ => cases hx
          · cases hv
        · cases hv
      · cases hv
    · cases hv
  · cases hv
theorem fieldA_sim {x : AV} {x' : Value} (hx : VR d x x') (t : TypeId) (f : Nat) : SimV d (fieldA X t x f) (fieldv X t x' f) := by
  intro v hv
  unfold fieldA at hv
  unfold fieldv
  split at hv
  · rename_i fs cs hu
    cases hx with | agg _ cs' h =>
    simp only [hu]
    split at hv
    · rename_i fd hf
      simp only [hf]
      exact partA_sim h _ _ v hv
    · cases hv
  · cases hv
theorem indexAddrA_sim {x i : AV} {x' i' : Value} (hx : VR d x x') (hi : VR d i i') (t : TypeId) : SimV d (indexAddrA X t x i) (indexAddrv X t x' i') := by
  intro v hv
  unfold indexAddrA at hv
  unfold indexAddrv
  split at hv
  · rename_i n e k j hu
    cases hi
    split at hv
    · rename_i te hte
      split at hv
      · rename_i hc
        split at hv
        · cases hv
          cases hx with | ptr _ k hk =>
          simp only [hu, hte]
          rw [if_pos hc]
          exact ⟨_, rfl, .ptr (Addr.fwd _ _) k hk⟩
        · cases hv
          cases x' with
          | pointer a =>
            cases a with
            | none => cases hx
            | some a =>
              simp only [hu, hte]
              rw [if_pos hc]
              exact ⟨_, rfl, fptr_fwd hx _⟩
          | _ => cases hx
        · cases hv
      · cases hv
    · cases hv
  · rename_i e k j hu
    cases hi
    split at hv
    · rename_i te hte
      split at hv
      · rename_i hz
        split at hv
        · rename_i a len cap
          cases hx with | sl _ _ _ k hk =>
          split at hv
          · rename_i hc
            cases hv
            simp only [hu, hte]
            rw [if_pos ⟨hc.1, hc.2, hz⟩]
            exact ⟨_, rfl, .ptr (Addr.fwd _ _) k hk⟩
          · cases hv
        · rename_i sz xs
          split at hv
          · rename_i hc
            simp only [Option.map_eq_some_iff] at hv
            obtain ⟨x, h1, rfl⟩ := hv
            have hlt := (List.getElem?_eq_some_iff.1 h1).1
            cases hx with
            | lnil => simp at hlt
            | lst _ _ a n cap o cs ds q1 q2 q3 q4 q5 q6 q7 =>
              subst q6
              simp only [hu, hte]
              rw [if_pos ⟨hc.2, by omega, hz⟩]
              refine ⟨_, rfl, ?_⟩
              have hxl : x.length = sz := q4 x (List.mem_of_getElem? h1)
              have hle : j.toNat * sz + sz ≤ n * sz := by
                rw [← Nat.succ_mul]; exact Nat.mul_le_mul_right _ (by omega)
              have q8 := rdO_sub (k := j.toNat * sz) (m := sz) q3 hle
              have e1 : x = (xs.flatten.drop (j.toNat * sz)).take sz := by
                rw [← flatten_drop q4, List.drop_eq_getElem_cons hlt, List.flatten_cons, (List.getElem?_eq_some_iff.1 h1).2, List.take_append_of_le_length (by omega), List.take_of_length_le (by omega)]
              refine .fptr x 0 (a.off + j.toNat * sz) _ o ((ds.drop (j.toNat * sz)).take sz) q1 ?_ ?_ ?_
              · show a.off + j.toNat * te.size = _; rw [hc.1]; omega
              · rw [hxl]; exact q8
              · rw [e1]; exact (q7.drop _).take _
          · cases hv
        · cases hv
      · cases hv
    · cases hv
  · cases hv
theorem indexA_sim {x i : AV} {x' i' : Value} (hx : VR d x x') (hi : VR d i i') (t : TypeId) : SimV d (indexA X t x i) (indexv X t x' i') := by
  intro v hv
  unfold indexA at hv
  unfold indexv
  split at hv
  · rename_i n e cs k j hu
    cases hi
    cases hx with | agg _ cs' h =>
    simp only [hu]
    split at hv
    · rename_i te hte
      simp only [hte]
      split at hv
      · rename_i hc
        rw [if_pos hc]
        exact partA_sim h _ _ v hv
      · cases hv
    · cases hv
  · rename_i b k j hu
    cases hi
    cases hx
    simp only [hu]
    split at hv
    · rename_i hc
      rw [if_pos hc]
      simp only [Option.map_eq_some_iff] at hv
      obtain ⟨x, h1, rfl⟩ := hv
      exact ⟨_, by rw [h1]; rfl, VR.int _ _⟩
    · cases hv
  · cases hv
theorem nextA_sim (h : Rel X d vs s) {ev : Operand → Value} {x : AV} {it : Operand} (hx : VR d x (ev it)) : Sim X d vs s (nextA x vs) (aop X ev (.next it true) s) := by
  intro v vs' hv
  unfold nextA at hv
  simp only [aop]
  generalize ev it = x' at hx
  split at hv
  · rename_i a
    cases hx with | ptr _ k hk =>
    split at hv
    · rename_i h0
      simp only
      rw [if_pos h0]
      split at hv
      · rename_i b pos hg
        obtain ⟨k1, o, q1, q2, q3⟩ := h.live _ _ hg
        rw [hk] at q1; cases q1
        cases q3
        simp only [q2]
        split at hv
        · rename_i hp
          cases hv
          rw [if_pos hp]
          obtain ⟨g1, g2⟩ := h.set (o' := .iter b (pos + (Utf8.decode b pos).2)) hg hk (.iter _ _)
          exact ⟨_, _, d, rfl, .tup _ _ (.cons _ _ _ _ (VR.bool _) (.cons _ _ _ _ (VR.int _ _) (.cons _ _ _ _ (VR.int _ _) .nil))), g1, g2⟩
        · rename_i hp
          rw [if_neg hp]
          refine Sim.ret h (.tup _ _ (.cons _ _ _ _ (VR.bool _) .nil)) v vs' hv
      · cases hv
    · cases hv
  · cases hv
theorem newA_sim (h : Rel X d vs s) {ev : Operand → Value} (t : TypeId) : Sim X d vs s (newA (X.ty t) t none vs) (aop X ev (.alloc t) s) := by
  intro v vs' hv
  simp only [aop]
  unfold newA at hv
  split at hv
  · rename_i ty ht
    simp only [ht]
    exact Sim.new h (OR.mk (VRs.cv _) _ _ _ _) VR.newPtr v vs' hv
  · cases hv
theorem boxA_sim (h : Rel X d vs s) {ev : Operand → Value} {x : AV} {xo : Operand} (hx : VR d x (ev xo)) (t : TypeId) : Sim X d vs s (newA (X.ty t) t (some x) vs) (aop X ev (.box t xo) s) := by
  intro v vs' hv
  simp only [aop]
  unfold newA at hv
  split at hv
  · rename_i ty ht
    simp only [ht]
    simp only [Option.map_eq_some_iff, Prod.mk.injEq] at hv
    obtain ⟨cs, h1, rfl, rfl⟩ := hv
    exact Sim.new h (OR.mk (hx.cells h1) _ _ _ _) VR.newPtr _ _ rfl
  · cases hv
theorem VRs.ofMap {ev : Operand → AV} {ev' : Operand → Value} (he : ∀ x, VR d (ev x) (ev' x)) (l : List Operand) : VRs d (l.map ev) (l.map ev') := VRs.map _ _ l fun x _ => he x
theorem aopA_sim (h : Rel X d vs s) {ev : Operand → AV} {ev' : Operand → Value} (he : ∀ x, VR d (ev x) (ev' x)) (op : Op) : Sim X d vs s (aopA X ev op vs) (aop X ev' op s) := by
  intro v vs' hv
  unfold aopA at hv
  split at hv
  · exact Sim.ret h (he _) v vs' hv
  · exact Sim.ret h (he _) v vs' hv
  · rename_i c a b
    simp only [Option.map_eq_some_iff, Prod.mk.injEq] at hv
    obtain ⟨w, h1, rfl, rfl⟩ := hv
    have hc := he c
    simp only [aop]
    generalize ev' c = c' at hc
    unfold pickA boolA at h1
    split at h1
    · rename_i h2
      split at h2
      · rename_i h3
        rw [h3] at hc
        cases hc
        cases h2
        cases h1
        exact Sim.ret h (he _) _ _ rfl
      · cases h2
    · rename_i h2
      split at h2
      · rename_i h3
        rw [h3] at hc
        cases hc
        cases h2
        cases h1
        exact Sim.ret h (he _) _ _ rfl
      · cases h2
    · cases h1
  · exact newA_sim h _ v vs' hv
  · exact boxA_sim h (he _) _ v vs' hv
  · exact Sim.ofV h (buildA_sim (partsA_sim he _) _) v vs' hv
  · exact bsliceA_sim h (partsA_sim he _) _ _ v vs' hv
  · exact Sim.ofV h (loadA_sim h (he _) _) v vs' hv
  · exact Sim.ofS (fun d' => VR.undef) (storeA_sim h (he _) (he _) _) v vs' hv
  · exact Sim.ofV h (nilCheckA_sim (he _)) v vs' hv
  · exact Sim.ofV h (binA_sim (he _) (he _) _ _) v vs' hv
  · rename_i op t x
    refine Sim.ofV h ?_ v vs' hv
    intro w hw
    have hx := he x
    unfold unA at hw
    split at hw
    · rename_i u hu
      rw [hu] at hx
      generalize ev' x = x' at hx
      cases hx
      simp only [Option.map_eq_some_iff] at hw
      obtain ⟨r, h1, rfl⟩ := hw
      exact ⟨r, h1, VR.cv r⟩
    · cases hw
  · exact convertA_sim h (he _) _ _ v vs' hv
  · rename_i f first captured
    refine Sim.ret h ?_ v vs' hv
    refine .fn f _ _ _ _ ?_ ?_
    · rw [Array.toList_map]; exact VRs.ofMap he _
    · rw [Array.toList_map]; exact VRs.ofMap he _
  · rename_i t
    simp only [aop]
    split at hv
    · rename_i a b hu
      simp only [hu]
      exact Sim.new h (.map _ _ _ .nil) (.map _ _ add_new) v vs' hv
    · cases hv
  · exact mksliceA_sim h (he _) (he _) _ v vs' hv
  · exact Sim.ofV h (sliceA_sim (he _) (OptR.mk he _) (OptR.mk he _) (OptR.mk he _) _) v vs' hv
  · exact Sim.ofV h (fieldAddrA_sim (he _) _ _) v vs' hv
  · exact Sim.ofV h (fieldA_sim (he _) _ _) v vs' hv
  · exact Sim.ofV h (indexAddrA_sim (he _) (he _) _) v vs' hv
  · exact Sim.ofV h (indexA_sim (he _) (he _) _) v vs' hv
  · exact Sim.ofV h (lookupA_sim h (he _) (he _) _ _) v vs' hv
  · exact Sim.ofS (fun d' => VR.undef) (mapUpdateA_sim h (he _) (he _) (he _) _) v vs' hv
  · rename_i t x
    simp only [aop]
    have hx := he x
    split at hv
    · rename_i b hu hb
      rw [hb] at hx
      generalize ev' x = x' at hx
      cases hx
      simp only [hu]
      exact Sim.new h (.iter _ _) VR.newPtr v vs' hv
    · cases hv
  · exact nextA_sim h (he _) v vs' hv
  · rename_i t i
    refine Sim.ofV h (r' := match ev' t with | .tuple us => us[i]? | _ => none) ?_ v vs' hv |> fun ⟨a, b, c, e1, e2⟩ => ⟨a, b, c, ?_, e2⟩
    · intro w hw
      have ht := he t
      unfold tupA at hw
      split at hw
      · rename_i us ht'
        rw [ht'] at ht
        generalize ev' t = t' at ht
        cases ht with | tup _ cs' hcs =>
        obtain ⟨w', h1, h2⟩ := hcs.get _ _ hw
        exact ⟨w', by rw [← h1, Array.getElem?_toList], h2⟩
      · cases hw
    · rw [← e1]
      simp only [aop]
      cases ev' t <;> rfl
  · exact builtinA_sim h (VRs.ofMap he _) _ _ v vs' hv
  · cases hv
end Go.Proofs.Yticllcglldbffaa.Ab
end
section
namespace Go.Proofs.Yticllcglldbffaa.Ab
def rdArg : Op → Option Operand
  | .load _ a => some a
  | .lookup _ m _ _ => some m
  | .convert _ _ x => some x
  | .call { callee := .builtin .len, args, .. } => args[0]?
  | _ => none
def lenOnly (op : Op) (x : AV) : Bool := match op with
  | .call { callee := .builtin .len, .. } => (match x with | .map _ => false | .bad => false | _ => true)
  | _ => false
def blkOf : AV → Option Nat
  | .ptr a => some a.block
  | .sl a _ _ => some a.block
  | .map r => some r
  | _ => none
def blkV : Value → Option Nat
  | .pointer (some a) => some a.block
  | .slice (some a) _ _ => some a.block
  | .map (some r) => some r
  | _ => none
section
variable {X : Prg} {d : Wd} {vs : VS} {s : St}
theorem rd_same {s s2 : St} {a : Addr} {n : Nat} (h : s2.get a.block = s.get a.block) : s2.rd a n = s.rd a n := by unfold St.rd; rw [h]
theorem convertA_bad (a b : TypeId) : convertA X a b .bad vs = none := by
  unfold convertA
  split
  · split <;> first | rfl | (rename_i hh; cases hh; done) | skip
    all_goals (split <;> rfl)
  · rfl
theorem convertv_keep {a b : TypeId} {x' v' : Value} {s1 s2 : St} (hnew : (match X.und a, X.und b with | some .string, some (.slice _) => true | _, _ => false) = false) (H : ∀ k, blkV x' = some k → s2.get k = s.get k) (ha : convertv X a b x' s = some (v', s1)) : ∃ s3, convertv X a b x' s2 = some (v', s3) := by
  cases e1 : X.ty a with
  | none => simp [convertv, e1] at ha
  | some ts =>
    cases e2 : X.ty b with
    | none => simp [convertv, e1, e2] at ha
    | some td =>
      simp only [Prg.und, e1, e2] at hnew
      simp only [convertv, e1, e2] at ha ⊢
      generalize ts.und = p at *
      generalize td.und = q at *
      split at ha
      · cases ha; exact ⟨_, rfl⟩
      · cases ha; exact ⟨_, rfl⟩
      · cases ha; exact ⟨_, rfl⟩
      · simp at hnew
      · split at ha
        · rename_i h1
          cases ha
          exact ⟨_, rfl⟩
        · cases ha
      · split at ha
        · rename_i h1
          split at ha
          · rename_i a0 len _ cs hr
            simp only [Option.map_eq_some_iff, Prod.mk.injEq] at ha
            obtain ⟨l, h2, rfl, rfl⟩ := ha
            refine ⟨s2, ?_⟩
            rw [rd_same (H _ rfl), hr]
            simp only [h2]
            rfl
          · cases ha
        · cases ha
      · split at ha
        · rename_i tt r htt hb
          refine ⟨s2, ?_⟩
          rw [H _ rfl]
          simp only [htt, hb]
          split at ha
          · rename_i hc
            cases ha
            rw [if_pos hc]
          · cases ha
        · cases ha
      · split at ha
        · rename_i tt r htt hb
          refine ⟨s2, ?_⟩
          rw [H _ rfl]
          simp only [htt, hb]
          split at ha
          · rename_i hc
            cases ha
            rw [if_pos hc]
          · cases ha
        · cases ha
      · cases ha
theorem aopA_keep (h : Rel X d vs s) {ev : Operand → AV} {ev' : Operand → Value} (he : ∀ x, VR d (ev x) (ev' x)) {op : Op} (hop : isEff op = false) (hnew : isNew X op = false) {v : AV} {vs1 : VS} (hv : aopA X ev op vs = some (v, vs1)) {v' : Value} {s1 s2 : St}
    (ha : aop X ev' op s = some (v', s1)) (H : ∀ x, rdArg op = some x → ev x ≠ .bad → lenOnly op (ev x) = false → ∀ k, blkV (ev' x) = some k → s2.get k = s.get k) : ∃ s3, aop X ev' op s2 = some (v', s3) := by
  unfold aop at ha ⊢
  split at ha
  case h_8 t a =>
    simp only [Option.map_eq_some_iff, Prod.mk.injEq] at ha
    obtain ⟨w, e1, rfl, rfl⟩ := ha
    simp only [aopA, Option.map_eq_some_iff, Prod.mk.injEq] at hv
    obtain ⟨u, e2, rfl, rfl⟩ := hv
    have hx := he a
    have hb : ev a ≠ .bad := by
      intro hb; rw [hb] at e2; simp only [loadA] at e2; split at e2 <;> cases e2
    have H := H a rfl hb rfl
    unfold loadv at e1
    refine ⟨s2, ?_⟩
    rw [show loadv X t (ev' a) s2 = some w from ?_]; rfl
    unfold loadv
    split at e1
    · rename_i ty p ht hp
      have := H p.block (by rw [hp]; rfl)
      simp only [ht, hp, rd_same this]
      exact e1
    · cases e1
  all_goals first
    | (simp [isEff] at hop; done)
    | (simp [isNew] at hnew; done)
    | (cases ha; exact ⟨_, rfl⟩)
    | (split at ha <;> first | (cases ha; done) | (cases ha; rename_i hh; simp only [hh]; exact ⟨_, rfl⟩))
    | (simp only [Option.map_eq_some_iff, Prod.mk.injEq] at ha; obtain ⟨w, e1, rfl, rfl⟩ := ha; simp only [e1, Option.map_some]; exact ⟨_, rfl⟩)
    | skip
  case h_3 =>
    split at ha
    · rename_i t ht
      cases ha
      exact ⟨s2, rfl⟩
    · cases ha
  case h_13 a b x =>
    have hx := he x
    have hb : ev x ≠ .bad := by
      intro hb
      simp only [aopA, hb, convertA_bad] at hv
      cases hv
    have H := H x rfl hb rfl
    simp only [isNew] at hnew
    exact convertv_keep hnew H ha
  case h_22 t m k ok =>
    simp only [Option.map_eq_some_iff, Prod.mk.injEq] at ha
    obtain ⟨w, e1, rfl, rfl⟩ := ha
    have hb : ev m ≠ .bad := by
      intro hb
      simp only [aopA, hb, lookupA, entriesA] at hv
      split at hv
      · split at hv <;> first | (simp at hv; done) | (rename_i h1 _; cases h1; done) | (rename_i h1 _ _; cases h1; done)
      · simp at hv
    have H := H m rfl hb rfl
    refine ⟨s2, ?_⟩
    have : entries (ev' m) s2 = entries (ev' m) s := by
      unfold entries
      split
      · rfl
      · rename_i r hr
        rw [H r (by rw [hr]; rfl)]
      · rfl
    unfold lookupv at e1 ⊢
    rw [this, e1]; rfl
  case h_26 t i =>
    split at ha
    · simp only [Option.map_eq_some_iff, Prod.mk.injEq] at ha
      obtain ⟨w, e1, rfl, rfl⟩ := ha
      exact ⟨s2, by rw [e1]; rfl⟩
    · cases ha
  case h_27 b args ts =>
    unfold builtinv at ha ⊢
    split at ha
    · rename_i x hargs
      have ha0 : ∃ x0, args[0]? = some x0 ∧ x = ev' x0 := by
        cases hl : args.toList with
        | nil => rw [hl] at hargs; simp at hargs
        | cons y l =>
          rw [hl] at hargs
          simp only [List.map_cons, List.cons.injEq] at hargs
          exact ⟨y, by rw [← Array.getElem?_toList, hl]; rfl, hargs.1.symm⟩
      obtain ⟨x0, hx0, rfl⟩ := ha0
      split at ha
      · rename_i t ht
        simp only [Option.map_eq_some_iff, Prod.mk.injEq] at ha
        obtain ⟨n, e1, rfl, rfl⟩ := ha
        have : lenv X t (ev' x0) s2 = some n := by
          rw [← e1]
          unfold lenv at e1 ⊢
          split
          · rfl
          · rename_i ty hty
            simp only [hty] at e1
            split <;> try rfl
            rename_i r h1 h2
            by_cases hb : ev x0 = .bad
            · exfalso
              simp only [aopA, builtinA] at hv
              have hvx : args.toList.map ev = [ev x0] := by
                cases hl : args.toList with
                | nil => rw [hl] at hargs; simp at hargs
                | cons y l =>
                  rw [hl] at hargs
                  simp only [List.map_cons, List.cons.injEq, List.map_eq_nil_iff] at hargs
                  rw [hargs.2]
                  have : args[0]? = some y := by rw [← Array.getElem?_toList, hl]; rfl
                  rw [hx0] at this; cases this
                  rfl
              rw [hvx, hb] at hv
              simp only [ht, lenA, hty, h1, Option.map_none] at hv
              cases hv
            · have hlo : (match ev x0 with | .map _ => false | .bad => false | _ => true) = false := by
                have hvx := he x0
                rw [h2] at hvx
                generalize ev x0 = y at hvx
                cases hvx with
                | bad => rfl
                | c v hv => simp [atomV] at hv
                | map r k q => rfl
              rw [H x0 hx0 hb hlo r (by rw [h2]; rfl)]
        rw [this]; exact ⟨_, rfl⟩
      · cases ha
    all_goals first
      | (cases ha; done)
      | (simp [isEff] at hop; done)
      | (simp only [Option.map_eq_some_iff, Prod.mk.injEq] at ha; obtain ⟨w, e1, rfl, rfl⟩ := ha; simp only [e1, Option.map_some]; exact ⟨_, rfl⟩)
      | (repeat' (split at ha <;> try (cases ha; done))) <;> (cases ha; first | exact ⟨_, rfl⟩ | (rename_i hc; exact ⟨_, if_pos hc⟩))
  case h_28 => cases ha
end
end Go.Proofs.Yticllcglldbffaa.Ab
end
section
namespace Go.Proofs.Yticllcglldbffaa.Ab
def plainA : AV → Bool
  | .c _ | .ptr _ | .fptr _ _ | .sl _ _ _ | .lst _ _ | .emp | .map _ => true
  | _ => false
def selfB : AV → Bool
  | .agg cs => Nat.ble cs.length 400 && cs.all plainA
  | v => plainA v
def selfA : AV → Bool
  | .agg cs => Nat.ble cs.length 900 && cs.all plainA
  | .tup cs => Nat.ble cs.length 400 && cs.all selfB
  | .fn _ a b => Nat.ble a.length 400 && Nat.ble b.length 400 && a.all plainA && b.all plainA
  | v => plainA v
section
variable {X : Prg} {d : Wd} {vs : VS} {s : St}
theorem aeq_plain {x : AV} {v : Value} (h : VR d x v) (hp : plainA x = true) (n : Nat) : aeq (n + 2) v v = true := by
  cases h with
  | c v hv => cases v <;> first | (simp [atomV] at hv; done) | (simp [aeq]; done) | skip
              rename_i vs
              simp only [atomV, List.isEmpty_iff] at hv
              simp [aeq, hv, aeq.aeqs]
  | _ => first | (simp [plainA] at hp; done) | simp [aeq]
theorem aeqs_plain : ∀ {l : List AV} {l' : List Value}, VRs d l l' → l.all plainA = true → ∀ n, l.length + 2 ≤ n → aeq.aeqs n l' l' = true
  | _, _, .nil, _, n, hn => by cases n <;> simp [aeq.aeqs]
  | _, _, .cons v v' l l' h1 h2, hp, n, hn => by
    rw [List.all_cons, Bool.and_eq_true] at hp
    match n, hn with
    | n + 1, hn =>
      simp only [List.length_cons] at hn
      simp only [aeq.aeqs, Bool.and_eq_true]
      refine ⟨?_, aeqs_plain h2 hp.2 n (by omega)⟩
      obtain ⟨m, rfl⟩ : ∃ m, n = m + 2 := ⟨n - 2, by omega⟩
      exact aeq_plain h1 hp.1 m
theorem aeqs_self : ∀ {l : List AV} {l' : List Value}, VRs d l l' → l.all selfB = true → ∀ n, l.length + 410 ≤ n → aeq.aeqs n l' l' = true
  | _, _, .nil, _, n, hn => by cases n <;> simp [aeq.aeqs]
  | _, _, .cons v v' l l' h1 h2, hp, n, hn => by
    rw [List.all_cons, Bool.and_eq_true] at hp
    match n, hn with
    | n + 1, hn =>
      simp only [List.length_cons] at hn
      simp only [aeq.aeqs, Bool.and_eq_true]
      refine ⟨?_, aeqs_self h2 hp.2 n (by omega)⟩
      obtain ⟨m, rfl⟩ : ∃ m, n = m + 2 := ⟨n - 2, by omega⟩
      have h := hp.1
      by_cases hpl : plainA v = true
      · exact aeq_plain h1 hpl m
      · cases h1 with
        | agg cs cs' q1 =>
          simp only [selfB, Bool.and_eq_true] at h
          have := Nat.le_of_ble_eq_true h.1
          show aeq.aeqs (m + 1) _ _ = true
          exact aeqs_plain q1 h.2 (m + 1) (by omega)
        | _ => first | exact absurd rfl hpl | (simp [selfB, plainA] at h)
theorem aeqSelf_of {x : AV} {v : Value} (h : VR d x v) (hs : selfA x = true) : aeqSelf v := by
  unfold aeqSelf
  have hvr := h
  cases h with
  | agg cs cs' h1 =>
    simp only [selfA, Bool.and_eq_true] at hs
    have := Nat.le_of_ble_eq_true hs.1
    show aeq.aeqs 999 _ _ = true
    exact aeqs_plain h1 hs.2 999 (by omega)
  | tup cs cs' h1 =>
    simp only [selfA, Bool.and_eq_true] at hs
    have := Nat.le_of_ble_eq_true hs.1
    show aeq.aeqs 999 _ _ = true
    exact aeqs_self h1 hs.2 999 (by omega)
  | fn f a b a' b' h1 h2 =>
    simp only [selfA, Bool.and_eq_true] at hs
    obtain ⟨⟨⟨q1, q2⟩, q3⟩, q4⟩ := hs
    have := Nat.le_of_ble_eq_true q1
    have := Nat.le_of_ble_eq_true q2
    show (_ == _ && (aeq.aeqs 999 _ _ && aeq.aeqs 999 _ _)) = true
    rw [aeqs_plain h1 q3 999 (by omega), aeqs_plain h2 q4 999 (by omega)]
    simp
  | bad => simp [selfA, plainA] at hs
  | _ => exact aeq_plain hvr rfl 998
def ER (d : Wd) (ρ : AEnv) (ρ' : Env) : Prop := ∀ i, VR d (ρ.get i) (ρ'.get i)
theorem ER.mono {d d' : Wd} (h : d.le d') {ρ : AEnv} {ρ' : Env} (k : ER d ρ ρ') : ER d' ρ ρ' := fun i => (k i).mono h
theorem AEnv.get_set (ρ : AEnv) (i j : Nat) (v : AV) : (ρ.set i v).get j = if i = j then v else ρ.get j := by
  unfold AEnv.get AEnv.set
  rw [Tr.get_set]
  split <;> rfl
theorem ER.put {ρ : AEnv} {ρ' : Env} (h : ER d ρ ρ') (o : Option Nat) {v : AV} {v' : Value} (hv : VR d v v') : ER d (ρ.put o v) (ρ'.put o v') := by
  cases o with
  | none => exact h
  | some i =>
    intro j
    show VR d ((ρ.set i v).get j) ((ρ'.set i v').get j)
    rw [AEnv.get_set, Env.get_set]
    split
    · exact hv
    · exact h j
theorem Rel.globA (h : Rel X d vs s) (g : Nat) : VR d (globA X g) (.pointer (some ⟨g, 0, none⟩)) := by
  unfold Ab.globA
  split
  · rename_i p hp
    have h1 := List.mem_of_find?_eq_some hp
    have h2 := List.find?_some hp
    simp only [beq_iff_eq] at h2
    obtain ⟨h3, h4⟩ := h.glob p h1
    rw [h2] at h3
    refine .fptr _ 0 0 _ (.ro p.2) p.2 h3 rfl ?_ ?_
    · show (if (0 : Nat) = 0 ∧ 0 + (p.2.map AV.c).length ≤ p.2.length then some ((p.2.drop 0).take (p.2.map AV.c).length) else none) = _
      rw [if_pos ⟨rfl, by simp⟩]; simp
    · refine VRs.map1 _ _ fun v hv => .c v ?_
      have := List.all_eq_true.1 h4 v hv
      cases v <;> first | rfl | (simp [plainV] at this; done)
  · exact .bad _
theorem Rel.ev (h : Rel X d vs s) {ρ : AEnv} {ρ' : Env} (he : ER d ρ ρ') : ∀ x, VR d (evA X ρ x) (evo ρ' x)
  | .tmp t => he t
  | .const v => VR.cv v
  | .global g => h.globA g
  | .func f => .fn f [] [] #[] #[] .nil .nil
theorem Rel.laidOk (h : Rel X d vs s) : laidOk X s = true := by
  unfold Ab.laidOk
  rw [List.all_eq_true]
  intro p hp
  obtain ⟨h1, h2⟩ := h.glob p hp
  rw [h.frz _ _ h1]
  exact plainEqs_refl _ h2
theorem isA_isB {x : AV} {v : Value} (h : VR d x v) (w : Bool) (hb : x ≠ .bad) : isA x w = isB v w := by
  cases h with
  | bad => exact absurd rfl hb
  | c v hv => cases v <;> rfl
  | _ => rfl
end
section
variable (X : Prg)
def VC (f : Nat) (args : List AV) (vs : VS) (Q : AV → VS → Prop) : Prop :=
  ∀ d s args', Rel X d vs s → VRs d args args' → WC X f args' s fun r s' => ∃ v vs' d', Q v vs' ∧ VR d' v r ∧ Rel X d' vs' s' ∧ Evo d d' vs vs' s s'
def isSlT : Option TypeDesc → Bool
  | some (.slice _) => true
  | _ => false
def binK (op : BinOp) (t : TypeId) (x y : AV) (s : VS) (k : AV → VS → Prop) : Prop := match op, x, y with
  | .eql, .lst _ xs, .c (.slice none 0 0) => isSlT (X.und t) = true ∧ (xs = [] → k (.c (.bool true)) s) ∧ k (.c (.bool false)) s
  | .neq, .lst _ xs, .c (.slice none 0 0) => isSlT (X.und t) = true ∧ (xs = [] → k (.c (.bool false)) s) ∧ k (.c (.bool true)) s
  | .eql, .emp, .c (.slice none 0 0) | .neq, .emp, .c (.slice none 0 0) => isSlT (X.und t) = true ∧ k (.c (.bool true)) s ∧ k (.c (.bool false)) s
  | op, x, y => match binA X op t x y with
    | some v => k v s
    | none => False
def opA (op : Op) (ρ : AEnv) (s : VS) (k : AV → VS → Prop) : Prop := match isCall op with
  | some (f, args) => match funA (evA X ρ f) with
    | some (n, a, b) => VC X n (a ++ args.toList.map (evA X ρ) ++ b) s k
    | none => False
  | none => match op with
    | .binOp o t x y _ => binK X o t (evA X ρ x) (evA X ρ y) s k
    | op => match aopA X (evA X ρ) op s with
      | some (v, s') => k v s'
      | none => False
def wantV (v : AV) (w : Bool) : Option Bool := match v with | .bad => none | v => some (isA v w)
def wantP : Gd → AEnv → Option Bool
  | .always, _ => some true
  | .never, _ => some false
  | .on t w, ρ => wantV (ρ.get t) w
def vwpS : List SO → AEnv → VS → (AEnv → VS → Prop) → Prop
  | [], ρ, s, K => K ρ s
  | o :: r, ρ, s, K => match wantP o.g ρ with
    | some true => opA X o.op ρ s fun v s' => vwpS r (ρ.put o.dst v) s' K
    | some false => vwpS r (ρ.put o.dst (.c undef)) s K
    | none => False
def keepsA (op : Op) (ρ : AEnv) (vs vs2 : VS) : Prop := match rdArg op with
  | none => True
  | some x => match blkOf (evA X ρ x) with
    | some b => vs2.ver b = vs.ver b
    | none => True
structure HE where
  j : Nat
  vs : VS
  since : List Nat
def lookH : List HE → Nat → Option HE
  | [], _ => none
  | e :: l, i => if e.j = i then some e else lookH l i
def keptA (op : Op) (ρ : AEnv) (vs : VS) (e : HE) : Prop := match rdArg op with
  | none => True
  | some x => match lenOnly op (evA X ρ x) with
    | true => True
    | false => match blkOf (evA X ρ x) with
      | some b => b < e.vs.size ∧ vs.ver b = e.vs.ver b
      | none => match x with
        | .tmp t => e.since.contains t = false
        | _ => True
def pendAll (pend : List (Nat × (VS → Prop))) (s : VS) : List Nat → Prop
  | [] => True
  | i :: l => (match lookN pend i with | some p => p s | none => True) ∧ pendAll pend s l
def keptAll (hist : List HE) (op : Op) (ρ : AEnv) (vs : VS) : List Nat → Prop
  | [] => True
  | j :: l => (match lookH hist j with | some e => keptA X op ρ vs e | none => False) ∧ keptAll hist op ρ vs l
def since (d : Option Nat) (hist : List HE) : List HE := match d with
  | some t => hist.map fun e => { e with since := t :: e.since }
  | none => hist
def rigA : AV → AV
  | .c v => .c v
  | _ => .bad
def evS (ρ : AEnv) (l : List Nat) : Operand → AV
  | .tmp t => if l.contains t then rigA (ρ.get t) else ρ.get t
  | x => evA X ρ x
def valA (ev : Operand → AV) (op : Op) (s : VS) : Option AV := match op with
  | .move x | .assign x => some (ev x)
  | .load t a => loadA X t (ev a) s
  | .slice t x lo hi mx => sliceA X t (ev x) (lo.map ev) (hi.map ev) (mx.map ev)
  | .fieldAddr t x f => fieldAddrA X t (ev x) f
  | .field t x f => fieldA X t (ev x) f
  | .indexAddr t x i => indexAddrA X t (ev x) (ev i)
  | .index t x i => indexA X t (ev x) (ev i)
  | _ => none
open Classical in
noncomputable def sinceE (op : Op) (ρ : AEnv) (chk : List Nat) (t : Nat) (v : AV) (e : HE) : HE := if chk.contains e.j = true ∧ valA X (evS X ρ e.since) op e.vs = some v then e else { e with since := t :: e.since }
noncomputable def sinceQ (op : Op) (ρ : AEnv) (chk : List Nat) (d : Option Nat) (v : AV) (hist : List HE) : List HE := match d with
  | some t => hist.map (sinceE X op ρ chk t v)
  | none => hist
noncomputable def vwpD : List SD → Nat → List HE → List (Nat × (VS → Prop)) → AEnv → VS → (AEnv → VS → Prop) → Prop
  | [], _, _, _, ρ, s, K => K ρ s
  | o :: r, i, hist, pend, ρ, s, K =>
    match wantP o.so.g ρ with
    | none => False
    | some true => opA X o.so.op ρ s fun v s' =>
        if o.kind = 1 then pendAll pend s' o.chk ∧ vwpD r (i + 1) (since o.so.dst (⟨i, s, []⟩ :: hist)) pend (ρ.put o.so.dst v) s' K
        else if o.kind = 2 then (isEff o.so.op = false ∧ isNew X o.so.op = false ∧ selfA v = true) ∧ keptAll X hist o.so.op ρ s o.chk ∧ vwpD r (i + 1) (sinceQ X o.so.op ρ o.chk o.so.dst v hist) ((i, keepsA X o.so.op ρ s) :: pend) (ρ.put o.so.dst v) s' K
        else vwpD r (i + 1) (since o.so.dst hist) pend (ρ.put o.so.dst v) s' K
    | some false => if o.kind = 1 then pendAll pend s o.chk ∧ vwpD r (i + 1) (since o.so.dst (⟨i, s, []⟩ :: hist)) pend (ρ.put o.so.dst (.c undef)) s K else vwpD r (i + 1) (since o.so.dst hist) pend (ρ.put o.so.dst (.c undef)) s K
def Lift (d : Wd) (vs : VS) (s : St) (Q : Xit → AEnv → VS → Prop) (e : Xit) (ρ' : Env) (s' : St) : Prop := ∃ ρ vs' d', Q e ρ vs' ∧ ER d' ρ ρ' ∧ Rel X d' vs' s' ∧ Evo d d' vs vs' s s'
def VW (c : Code) (ρ : AEnv) (vs : VS) (Q : Xit → AEnv → VS → Prop) : Prop := ∀ d s ρ', Rel X d vs s → ER d ρ ρ' → W X c ρ' s (Lift X d vs s Q)
def blockA (id : Nat) (Q : Xit → AEnv → VS → Prop) (e : Xit) (ρ : AEnv) (s : VS) : Prop := match e with
  | .exit i => if i = id then Q .normal ρ s else Q (.exit i) ρ s
  | e => Q e ρ s
noncomputable def vwp : Code → AEnv → VS → (Xit → AEnv → VS → Prop) → Prop
  | .skip, ρ, s, Q => Q .normal ρ s
  | .label _, ρ, s, Q => Q .normal ρ s
  | .region _ ops draw, ρ, s, Q => if regOk X ops.toList draw = true then vwpS X (ops.toList.map (strip1 ops)) ρ s (Q .normal)
    else statOk X ops.toList = true ∧ vwpD X (zipD (ops.toList.map (strip1 ops)) (metaOf X ops.toList)) 0 [] [] ρ s (Q .normal)
  | .seq a b, ρ, s, Q => vwp a ρ s fun e ρ s => match e with | .normal => vwp b ρ s Q | e => Q e ρ s
  | .cond c a b, ρ, s, Q => match boolA (evA X ρ c) with | some true => vwp a ρ s Q | some false => vwp b ρ s Q | none => False
  | .block id c, ρ, s, Q => vwp c ρ s (blockA id Q)
  | .exit i, ρ, s, Q => Q (.exit i) ρ s
  | .goto l, ρ, s, Q => Q (.goto l) ρ s
  | .ret, ρ, s, Q => Q .ret ρ s
  | c, ρ, s, Q => VW X c ρ s Q
end
def iterA (I : Nat → AEnv → VS → Prop) (m : Nat) (Q : Xit → AEnv → VS → Prop) (e : Xit) (ρ : AEnv) (s : VS) : Prop := match e with
  | .normal => ∃ m', m' < m ∧ I m' ρ s
  | e => Q e ρ s
def resA (X : Prg) (ρ : AEnv) (s : VS) : List ResultVar → Option (List AV)
  | [] => some []
  | .tmp t :: rs => (resA X ρ s rs).map (ρ.get t :: ·)
  | .cell a t :: rs => match loadA X t (ρ.get a) s, resA X ρ s rs with
    | some v, some vs => some (v :: vs)
    | _, _ => none
def tupAs : List AV → AV
  | [v] => v
  | vs => .tup vs
def rtA (X : Prg) (rs : List ResultVar) (Q : AV → VS → Prop) (e : Xit) (ρ : AEnv) (s : VS) : Prop := match e with
  | .normal | .ret => match resA X ρ s rs with
    | some vs => Q (tupAs vs) s
    | none => False
  | _ => False
section
variable {X : Prg} {ρ : AEnv} {s : VS}
def seqA (X : Prg) (b : Code) (Q : Xit → AEnv → VS → Prop) (e : Xit) (ρ : AEnv) (s : VS) : Prop := match e with | .normal => vwp X b ρ s Q | e => Q e ρ s
def condA (X : Prg) (t : Option Bool) (a b : Code) (ρ : AEnv) (s : VS) (Q : Xit → AEnv → VS → Prop) : Prop := match t with | some true => vwp X a ρ s Q | some false => vwp X b ρ s Q | none => False
section
variable {Q : Xit → AEnv → VS → Prop} {a b c : Code} {i : Nat}
theorem sqN : seqA X b Q .normal ρ s = vwp X b ρ s Q := rfl
theorem sqE : seqA X b Q (.exit i) ρ s = Q (.exit i) ρ s := rfl
theorem sqG : seqA X b Q (.goto i) ρ s = Q (.goto i) ρ s := rfl
theorem sqR : seqA X b Q .ret ρ s = Q .ret ρ s := rfl
theorem bkN : blockA i Q .normal ρ s = Q .normal ρ s := rfl
theorem bkE {j : Nat} : blockA i Q (.exit j) ρ s = if j = i then Q .normal ρ s else Q (.exit j) ρ s := rfl
theorem bkG {j : Nat} : blockA i Q (.goto j) ρ s = Q (.goto j) ρ s := rfl
theorem bkR : blockA i Q .ret ρ s = Q .ret ρ s := rfl
theorem cdT : condA X (some true) a b ρ s Q = vwp X a ρ s Q := rfl
theorem cdF : condA X (some false) a b ρ s Q = vwp X b ρ s Q := rfl
theorem cd_dec {p : Prop} [Decidable p] (h1 : p → vwp X a ρ s Q) (h2 : ¬ p → vwp X b ρ s Q) : condA X (some (decide p)) a b ρ s Q := by
  by_cases h : p
  · rw [decide_eq_true h]; exact h1 h
  · rw [decide_eq_false h]; exact h2 h
theorem cd_ndec {p : Prop} [Decidable p] (h1 : ¬ p → vwp X a ρ s Q) (h2 : p → vwp X b ρ s Q) : condA X (some (!decide p)) a b ρ s Q := by
  by_cases h : p
  · rw [decide_eq_true h]; exact h2 h
  · rw [decide_eq_false h]; exact h1 h
theorem cd_split {t : Bool} (h1 : t = true → vwp X a ρ s Q) (h2 : t = false → vwp X b ρ s Q) : condA X (some t) a b ρ s Q := by
  cases t
  · exact h2 rfl
  · exact h1 rfl
theorem vS (h : c = .seq a b) {ρ : AEnv} {s : VS} {Q : Xit → AEnv → VS → Prop} : vwp X c ρ s Q = vwp X a ρ s (seqA X b Q) := by subst h; rfl
theorem vC {x : Operand} (h : c = .cond x a b) {ρ : AEnv} {s : VS} {Q : Xit → AEnv → VS → Prop} : vwp X c ρ s Q = condA X (boolA (evA X ρ x)) a b ρ s Q := by subst h; rfl
theorem vB (h : c = .block i a) {ρ : AEnv} {s : VS} {Q : Xit → AEnv → VS → Prop} : vwp X c ρ s Q = vwp X a ρ s (blockA i Q) := by subst h; rfl
theorem vL (h : c = .loop a) {ρ : AEnv} {s : VS} {Q : Xit → AEnv → VS → Prop} : vwp X c ρ s Q = VW X (.loop a) ρ s Q := by subst h; rfl
theorem vP (h : c = .scope a) {ρ : AEnv} {s : VS} {Q : Xit → AEnv → VS → Prop} : vwp X c ρ s Q = VW X (.scope a) ρ s Q := by subst h; rfl
theorem vK (h : c = .skip) {ρ : AEnv} {s : VS} {Q : Xit → AEnv → VS → Prop} : vwp X c ρ s Q = Q .normal ρ s := by subst h; rfl
theorem vE (h : c = .exit i) {ρ : AEnv} {s : VS} {Q : Xit → AEnv → VS → Prop} : vwp X c ρ s Q = Q (.exit i) ρ s := by subst h; rfl
theorem vG (h : c = .goto i) {ρ : AEnv} {s : VS} {Q : Xit → AEnv → VS → Prop} : vwp X c ρ s Q = Q (.goto i) ρ s := by subst h; rfl
theorem vT (h : c = .label i) {ρ : AEnv} {s : VS} {Q : Xit → AEnv → VS → Prop} : vwp X c ρ s Q = Q .normal ρ s := by subst h; rfl
theorem vR (h : c = .ret) {ρ : AEnv} {s : VS} {Q : Xit → AEnv → VS → Prop} : vwp X c ρ s Q = Q .ret ρ s := by subst h; rfl
theorem vO {ops : Array Oper} {draw : Bool} (h : c = .region i ops draw) (hok : regOk X ops.toList draw = true) {ρ : AEnv} {s : VS} {Q : Xit → AEnv → VS → Prop} : vwp X c ρ s Q = vwpS X (ops.toList.map (strip1 ops)) ρ s (Q .normal) := by
  subst h
  simp only [vwp, hok, if_true]
theorem vD {ops : Array Oper} {draw : Bool} {m : List (Nat × List Nat)} (h : c = .region i ops draw) (hno : regOk X ops.toList draw = false) (hst : statOk X ops.toList = true) (hm : metaOf X ops.toList = m) {ρ : AEnv} {s : VS} {Q : Xit → AEnv → VS → Prop} :
    vwp X c ρ s Q = vwpD X (zipD (ops.toList.map (strip1 ops)) m) 0 [] [] ρ s (Q .normal) := by
  subst h
  simp only [vwp, hno, hst, hm, if_false, true_and, Bool.false_eq_true]
theorem itN {I : Nat → AEnv → VS → Prop} {m : Nat} : iterA I m Q .normal ρ s = ∃ m', m' < m ∧ I m' ρ s := rfl
theorem itE {I : Nat → AEnv → VS → Prop} {m : Nat} : iterA I m Q (.exit i) ρ s = Q (.exit i) ρ s := rfl
theorem itG {I : Nat → AEnv → VS → Prop} {m : Nat} : iterA I m Q (.goto i) ρ s = Q (.goto i) ρ s := rfl
theorem itR {I : Nat → AEnv → VS → Prop} {m : Nat} : iterA I m Q .ret ρ s = Q .ret ρ s := rfl
end
def resQ (o : Option (List AV)) (s : VS) (Q : AV → VS → Prop) : Prop := match o with | some vs => Q (tupAs vs) s | none => False
theorem rq_some {vs : List AV} {Q : AV → VS → Prop} : resQ (some vs) s Q = Q (tupAs vs) s := rfl
theorem rt_ret {rs : List ResultVar} {Q : AV → VS → Prop} : rtA X rs Q .ret ρ s = resQ (resA X ρ s rs) s Q := rfl
theorem rt_normal {rs : List ResultVar} {Q : AV → VS → Prop} : rtA X rs Q .normal ρ s = resQ (resA X ρ s rs) s Q := rfl
theorem rs_nil : resA X ρ s [] = some [] := rfl
theorem rs_tmp {t : Nat} {rs : List ResultVar} : resA X ρ s (.tmp t :: rs) = (resA X ρ s rs).map (ρ.get t :: ·) := rfl
def consAO (a : Option AV) (b : Option (List AV)) : Option (List AV) := match a, b with | some v, some l => some (v :: l) | _, _ => none
theorem ca_some {v : AV} {l : List AV} : consAO (some v) (some l) = some (v :: l) := rfl
theorem rs_cell {a t : Nat} {rs : List ResultVar} : resA X ρ s (.cell a t :: rs) = consAO (loadA X t (ρ.get a) s) (resA X ρ s rs) := rfl
theorem ta_nil : tupAs [] = .tup [] := rfl
theorem ta_one {v : AV} : tupAs [v] = v := rfl
theorem ta_more {a b : AV} {l : List AV} : tupAs (a :: b :: l) = .tup (a :: b :: l) := rfl
section
variable {d : Option Nat} {op : Op} {r : List SO} {K : AEnv → VS → Prop}
def KA (X : Prg) (d : Option Nat) (r : List SO) (ρ : AEnv) (K : AEnv → VS → Prop) (v : AV) (s : VS) : Prop := vwpS X r (ρ.put d v) s K
theorem KA_eq {v : AV} : KA X d r ρ K v s = vwpS X r (ρ.put d v) s K := rfl
theorem wv_bool {b w : Bool} : wantV (.c (.bool b)) w = some (b == w) := rfl
theorem wv_undef {w : Bool} : wantV (.c undef) w = some false := rfl
def guardA (X : Prg) (b : Option Bool) (d : Option Nat) (op : Op) (r : List SO) (ρ : AEnv) (s : VS) (K : AEnv → VS → Prop) : Prop := match b with
  | some true => opA X op ρ s (KA X d r ρ K)
  | some false => vwpS X r (ρ.put d (.c undef)) s K
  | none => False
theorem vs_nil : vwpS X [] ρ s K = K ρ s := rfl
theorem vs_always : vwpS X (⟨d, op, .always⟩ :: r) ρ s K = opA X op ρ s (KA X d r ρ K) := rfl
theorem vs_never : vwpS X (⟨d, op, .never⟩ :: r) ρ s K = vwpS X r (ρ.put d (.c undef)) s K := rfl
theorem vs_on {t : Nat} {w : Bool} : vwpS X (⟨d, op, .on t w⟩ :: r) ρ s K = guardA X (wantV (ρ.get t) w) d op r ρ s K := by
  simp only [vwpS, wantP, guardA]
  cases wantV (ρ.get t) w with
  | none => rfl
  | some b => cases b <;> rfl
theorem ga_true : guardA X (some true) d op r ρ s K = opA X op ρ s (KA X d r ρ K) := rfl
theorem ga_false : guardA X (some false) d op r ρ s K = vwpS X r (ρ.put d (.c undef)) s K := rfl
theorem ga_dec {p : Prop} [Decidable p] (h1 : p → opA X op ρ s (KA X d r ρ K)) (h2 : ¬ p → vwpS X r (ρ.put d (.c undef)) s K) : guardA X (some (decide p)) d op r ρ s K := by
  by_cases h : p
  · rw [decide_eq_true h]; exact h1 h
  · rw [decide_eq_false h]; exact h2 h
theorem ga_ndec {p : Prop} [Decidable p] (h1 : ¬ p → opA X op ρ s (KA X d r ρ K)) (h2 : p → vwpS X r (ρ.put d (.c undef)) s K) : guardA X (some (!decide p)) d op r ρ s K := by
  by_cases h : p
  · rw [decide_eq_true h]; exact h2 h
  · rw [decide_eq_false h]; exact h1 h
theorem ga_split {b : Bool} (h1 : b = true → opA X op ρ s (KA X d r ρ K)) (h2 : b = false → vwpS X r (ρ.put d (.c undef)) s K) : guardA X (some b) d op r ρ s K := by
  cases b
  · exact h2 rfl
  · exact h1 rfl
variable {q : List SD} {j kind : Nat} {chk : List Nat} {hist : List HE} {pend : List (Nat × (VS → Prop))} {v : AV} {s' : VS}
def KDA (X : Prg) (kind : Nat) (chk : List Nat) (op : Op) (d : Option Nat) (r : List SD) (i : Nat) (hist : List HE) (pend : List (Nat × (VS → Prop))) (ρ : AEnv) (s : VS) (K : AEnv → VS → Prop) (v : AV) (s' : VS) : Prop :=
  if kind = 1 then pendAll pend s' chk ∧ vwpD X r (i + 1) (since d (⟨i, s, []⟩ :: hist)) pend (ρ.put d v) s' K
  else if kind = 2 then (isEff op = false ∧ isNew X op = false ∧ selfA v = true) ∧ keptAll X hist op ρ s chk ∧ vwpD X r (i + 1) (sinceQ X op ρ chk d v hist) ((i, keepsA X op ρ s) :: pend) (ρ.put d v) s' K
  else vwpD X r (i + 1) (since d hist) pend (ρ.put d v) s' K
theorem kd_0 : KDA X 0 chk op d q j hist pend ρ s K v s' = vwpD X q (j + 1) (since d hist) pend (ρ.put d v) s' K := rfl
theorem kd_1 : KDA X 1 chk op d q j hist pend ρ s K v s' = (pendAll pend s' chk ∧ vwpD X q (j + 1) (since d (⟨j, s, []⟩ :: hist)) pend (ρ.put d v) s' K) := rfl
theorem kd_2 : KDA X 2 chk op d q j hist pend ρ s K v s' = ((isEff op = false ∧ isNew X op = false ∧ selfA v = true) ∧ keptAll X hist op ρ s chk ∧ vwpD X q (j + 1) (sinceQ X op ρ chk d v hist) ((j, keepsA X op ρ s) :: pend) (ρ.put d v) s' K) := rfl
def guardDA (X : Prg) (b : Option Bool) (kind : Nat) (chk : List Nat) (op : Op) (d : Option Nat) (q : List SD) (i : Nat) (hist : List HE) (pend : List (Nat × (VS → Prop))) (ρ : AEnv) (s : VS) (K : AEnv → VS → Prop) : Prop := match b with
  | some true => opA X op ρ s (KDA X kind chk op d q i hist pend ρ s K)
  | some false => if kind = 1 then pendAll pend s chk ∧ vwpD X q (i + 1) (since d (⟨i, s, []⟩ :: hist)) pend (ρ.put d (.c undef)) s K else vwpD X q (i + 1) (since d hist) pend (ρ.put d (.c undef)) s K
  | none => False
theorem vd_nil : vwpD X [] j hist pend ρ s K = K ρ s := rfl
theorem vd_always : vwpD X (⟨⟨d, op, .always⟩, kind, chk⟩ :: q) j hist pend ρ s K = opA X op ρ s (KDA X kind chk op d q j hist pend ρ s K) := rfl
theorem vd_on {t : Nat} {w : Bool} : vwpD X (⟨⟨d, op, .on t w⟩, kind, chk⟩ :: q) j hist pend ρ s K = guardDA X (wantV (ρ.get t) w) kind chk op d q j hist pend ρ s K := by
  simp only [vwpD, wantP, guardDA]
  cases wantV (ρ.get t) w with
  | none => rfl
  | some b => cases b <;> rfl
theorem gd_true : guardDA X (some true) kind chk op d q j hist pend ρ s K = opA X op ρ s (KDA X kind chk op d q j hist pend ρ s K) := rfl
theorem gd_false : guardDA X (some false) kind chk op d q j hist pend ρ s K = if kind = 1 then pendAll pend s chk ∧ vwpD X q (j + 1) (since d (⟨j, s, []⟩ :: hist)) pend (ρ.put d (.c undef)) s K else vwpD X q (j + 1) (since d hist) pend (ρ.put d (.c undef)) s K := rfl
theorem gd_dec {p : Prop} [Decidable p] (h1 : p → opA X op ρ s (KDA X kind chk op d q j hist pend ρ s K)) (h2 : ¬ p → guardDA X (some false) kind chk op d q j hist pend ρ s K) : guardDA X (some (decide p)) kind chk op d q j hist pend ρ s K := by
  by_cases h : p
  · rw [decide_eq_true h]; exact h1 h
  · rw [decide_eq_false h]; exact h2 h
theorem gd_ndec {p : Prop} [Decidable p] (h1 : ¬ p → opA X op ρ s (KDA X kind chk op d q j hist pend ρ s K)) (h2 : p → guardDA X (some false) kind chk op d q j hist pend ρ s K) : guardDA X (some (!decide p)) kind chk op d q j hist pend ρ s K := by
  by_cases h : p
  · rw [decide_eq_true h]; exact h2 h
  · rw [decide_eq_false h]; exact h1 h
theorem gd_split {b : Bool} (h1 : b = true → opA X op ρ s (KDA X kind chk op d q j hist pend ρ s K)) (h2 : b = false → guardDA X (some false) kind chk op d q j hist pend ρ s K) : guardDA X (some b) kind chk op d q j hist pend ρ s K := by
  cases b
  · exact h2 rfl
  · exact h1 rfl
theorem pa_nil : pendAll pend s [] = True := rfl
def pendQ (p : Option (VS → Prop)) (s : VS) : Prop := match p with | some p => p s | none => True
theorem pa_cons {i : Nat} {l : List Nat} : pendAll pend s (i :: l) = (pendQ (lookN pend i) s ∧ pendAll pend s l) := rfl
theorem pq_some {p : VS → Prop} : pendQ (some p) s = p s := rfl
theorem pq_none : pendQ none s = True := rfl
theorem ka_nil : keptAll X hist op ρ s [] = True := rfl
def keptQ (X : Prg) (e : Option HE) (op : Op) (ρ : AEnv) (s : VS) : Prop := match e with | some e => keptA X op ρ s e | none => False
theorem ka_cons {i : Nat} {l : List Nat} : keptAll X hist op ρ s (i :: l) = (keptQ X (lookH hist i) op ρ s ∧ keptAll X hist op ρ s l) := rfl
theorem kq_some {e : HE} : keptQ X (some e) op ρ s = keptA X op ρ s e := rfl
theorem lh_cons {e : HE} {l : List HE} {i : Nat} : lookH (e :: l) i = if e.j = i then some e else lookH l i := rfl
theorem lh_nil {i : Nat} : lookH [] i = none := rfl
noncomputable def keepE (c : Bool) (o : Option AV) (v : AV) (t : Nat) (e : HE) : HE := open Classical in if c = true ∧ o = some v then e else { e with since := t :: e.since }
theorem sq_none {v : AV} : sinceQ X op ρ chk none v hist = hist := rfl
theorem sq_nil {v : AV} {t : Nat} : sinceQ X op ρ chk (some t) v [] = [] := rfl
theorem sq_cons {v : AV} {t : Nat} {e : HE} {l : List HE} : sinceQ X op ρ chk (some t) v (e :: l) = keepE (chk.contains e.j) (valA X (evS X ρ e.since) op e.vs) v t e :: sinceQ X op ρ chk (some t) v l := rfl
theorem ke_same {v : AV} {t : Nat} {e : HE} : keepE true (some v) v t e = e := if_pos ⟨rfl, rfl⟩
theorem ke_false {o : Option AV} {v : AV} {t : Nat} {e : HE} : keepE false o v t e = { e with since := t :: e.since } := if_neg (fun h => by cases h.1)
theorem ke_none {v : AV} {t : Nat} {e : HE} {c : Bool} : keepE c none v t e = { e with since := t :: e.since } := if_neg (fun h => by cases h.2)
theorem eS_tmp {l : List Nat} {t : Nat} : evS X ρ l (.tmp t) = if l.contains t then rigA (ρ.get t) else ρ.get t := rfl
theorem eS_const {l : List Nat} {v : Value} : evS X ρ l (.const v) = evA X ρ (.const v) := rfl
theorem eS_glob {l : List Nat} {g : Nat} : evS X ρ l (.global g) = evA X ρ (.global g) := rfl
theorem rg_c {v : Value} : rigA (.c v) = .c v := rfl
theorem sc_some {t : Nat} : since (some t) hist = hist.map fun e => { e with since := t :: e.since } := rfl
theorem sc_none : since none hist = hist := rfl
end
section
variable {k : AV → VS → Prop} {d : Option Nat} {op : Op}
def contA (p : Option (AV × VS)) (k : AV → VS → Prop) : Prop := match p with
  | some (v, s') => k v s'
  | none => False
def retA (p : Option AV) (s : VS) (k : AV → VS → Prop) : Prop := match p with
  | some v => k v s
  | none => False
def stA (p : Option VS) (k : AV → VS → Prop) : Prop := match p with
  | some s' => k (.c undef) s'
  | none => False
def callA (X : Prg) (p : Option (Nat × List AV × List AV)) (args : List AV) (s : VS) (k : AV → VS → Prop) : Prop := match p with
  | some (n, a, b) => VC X n (a ++ args ++ b) s k
  | none => False
theorem ct_some {v : AV} {s' : VS} : contA (some (v, s')) k = k v s' := rfl
theorem rt_some {v : AV} : retA (some v) s k = k v s := rfl
theorem st_some {s' : VS} : stA (some s') k = k (.c undef) s' := rfl
theorem cl_some {n : Nat} {a b args : List AV} : callA X (some (n, a, b)) args s k = VC X n (a ++ args ++ b) s k := rfl
theorem oa_gen (h : isCall op = none) (hb : ∀ o t x y p, op ≠ .binOp o t x y p) : opA X op ρ s k = contA (aopA X (evA X ρ) op s) k := by
  unfold opA
  rw [h]
  cases op <;> first | rfl | exact absurd rfl (hb _ _ _ _ _)
theorem ct_map {o : Option AV} : contA (o.map fun v => (v, s)) k = retA o s k := by cases o <;> rfl
theorem ct_st {o : Option VS} : contA (o.map fun s' => (.c undef, s')) k = stA o k := by cases o <;> rfl
theorem oa_move {x : Operand} : opA X (.move x) ρ s k = k (evA X ρ x) s := rfl
theorem oa_assign {x : Operand} : opA X (.assign x) ρ s k = k (evA X ρ x) s := rfl
theorem oa_pick {c a b : Operand} : opA X (.pick c a b) ρ s k = retA (pickA (boolA (evA X ρ c)) (evA X ρ a) (evA X ρ b)) s k := by rw [oa_gen rfl (by intros; exact Op.noConfusion)]; exact ct_map
theorem oa_bin {op : BinOp} {t p : TypeId} {x y : Operand} : opA X (.binOp op t x y p) ρ s k = binK X op t (evA X ρ x) (evA X ρ y) s k := rfl
section
variable {o : BinOp} {t : TypeId}
theorem bk_cc (a b : Value) : binK X o t (.c a) (.c b) s k = retA ((binOpv X o t a b).map cv) s k := by
  unfold binK; cases o <;> rfl
theorem bk_agg (a b : List AV) : binK X o t (.agg a) (.agg b) s k = retA (binA X o t (.agg a) (.agg b)) s k := by
  unfold binK; cases o <;> rfl
theorem bk_ptr (a : Addr) (y : AV) : binK X o t (.ptr a) y s k = retA (binA X o t (.ptr a) y) s k := by
  unfold binK; cases o <;> rfl
theorem bk_fptr (a : List AV) (n : Nat) (y : AV) : binK X o t (.fptr a n) y s k = retA (binA X o t (.fptr a n) y) s k := by
  unfold binK; cases o <;> rfl
theorem bk_sl (a : Addr) (l c : Nat) (y : AV) : binK X o t (.sl a l c) y s k = retA (binA X o t (.sl a l c) y) s k := by
  unfold binK; cases o <;> rfl
theorem bk_map (r : Nat) (y : AV) : binK X o t (.map r) y s k = retA (binA X o t (.map r) y) s k := by
  unfold binK; cases o <;> rfl
theorem bk_fn (f : Nat) (a b : List AV) (y : AV) : binK X o t (.fn f a b) y s k = retA (binA X o t (.fn f a b) y) s k := by
  unfold binK; cases o <;> rfl
theorem bk_leq (sz : Nat) (xs : List (List AV)) : binK X .eql t (.lst sz xs) (.c (.slice none 0 0)) s k = (isSlT (X.und t) = true ∧ (xs = [] → k (.c (.bool true)) s) ∧ k (.c (.bool false)) s) := rfl
theorem bk_lne (sz : Nat) (xs : List (List AV)) : binK X .neq t (.lst sz xs) (.c (.slice none 0 0)) s k = (isSlT (X.und t) = true ∧ (xs = [] → k (.c (.bool false)) s) ∧ k (.c (.bool true)) s) := rfl
theorem bk_eeq : binK X .eql t .emp (.c (.slice none 0 0)) s k = (isSlT (X.und t) = true ∧ k (.c (.bool true)) s ∧ k (.c (.bool false)) s) := rfl
theorem bk_ene : binK X .neq t .emp (.c (.slice none 0 0)) s k = (isSlT (X.und t) = true ∧ k (.c (.bool true)) s ∧ k (.c (.bool false)) s) := rfl
theorem isl_slice (e : TypeId) : isSlT (some (.slice e)) = true := rfl
end
theorem oa_un {op : UnOp} {t : TypeId} {x : Operand} : opA X (.unOp op t x) ρ s k = retA (unA op (evA X ρ x)) s k := by rw [oa_gen rfl (by intros; exact Op.noConfusion)]; exact ct_map
theorem oa_load {t : TypeId} {a : Operand} : opA X (.load t a) ρ s k = retA (loadA X t (evA X ρ a) s) s k := by rw [oa_gen rfl (by intros; exact Op.noConfusion)]; exact ct_map
theorem oa_nilCheck {x : Operand} : opA X (.nilCheck x) ρ s k = retA (nilCheckA (evA X ρ x)) s k := by rw [oa_gen rfl (by intros; exact Op.noConfusion)]; exact ct_map
theorem oa_fieldAddr {t : TypeId} {x : Operand} {f : Nat} : opA X (.fieldAddr t x f) ρ s k = retA (fieldAddrA X t (evA X ρ x) f) s k := by rw [oa_gen rfl (by intros; exact Op.noConfusion)]; exact ct_map
theorem oa_field {t : TypeId} {x : Operand} {f : Nat} : opA X (.field t x f) ρ s k = retA (fieldA X t (evA X ρ x) f) s k := by rw [oa_gen rfl (by intros; exact Op.noConfusion)]; exact ct_map
theorem oa_indexAddr {t : TypeId} {x i : Operand} : opA X (.indexAddr t x i) ρ s k = retA (indexAddrA X t (evA X ρ x) (evA X ρ i)) s k := by rw [oa_gen rfl (by intros; exact Op.noConfusion)]; exact ct_map
theorem oa_index {t : TypeId} {x i : Operand} : opA X (.index t x i) ρ s k = retA (indexA X t (evA X ρ x) (evA X ρ i)) s k := by rw [oa_gen rfl (by intros; exact Op.noConfusion)]; exact ct_map
theorem oa_slice {t : TypeId} {x : Operand} {lo hi mx : Option Operand} : opA X (.slice t x lo hi mx) ρ s k = retA (sliceA X t (evA X ρ x) (lo.map (evA X ρ)) (hi.map (evA X ρ)) (mx.map (evA X ρ))) s k := by rw [oa_gen rfl (by intros; exact Op.noConfusion)]; exact ct_map
theorem oa_build {t : TypeId} {ps : Array (Nat × Operand)} : opA X (.build t ps) ρ s k = retA (buildA X t (partsA (evA X ρ) ps)) s k := by rw [oa_gen rfl (by intros; exact Op.noConfusion)]; exact ct_map
theorem oa_lookup {t : TypeId} {m kk : Operand} {ok : Bool} : opA X (.lookup t m kk ok) ρ s k = retA (lookupA X t (evA X ρ m) (evA X ρ kk) ok s) s k := by rw [oa_gen rfl (by intros; exact Op.noConfusion)]; exact ct_map
theorem oa_extract {t : Operand} {i : Nat} : opA X (.extract t i) ρ s k = retA (tupA (evA X ρ t) i) s k := by rw [oa_gen rfl (by intros; exact Op.noConfusion)]; exact ct_map
theorem oa_store {t : TypeId} {a v : Operand} : opA X (.store t a v) ρ s k = stA (storeA X t (evA X ρ a) (evA X ρ v) s) k := by rw [oa_gen rfl (by intros; exact Op.noConfusion)]; exact ct_st
theorem oa_mapUpdate {t : TypeId} {m kk v : Operand} : opA X (.mapUpdate t m kk v) ρ s k = stA (mapUpdateA X t (evA X ρ m) (evA X ρ kk) (evA X ρ v) s) k := by rw [oa_gen rfl (by intros; exact Op.noConfusion)]; exact ct_st
theorem oa_convert {a b : TypeId} {x : Operand} : opA X (.convert a b x) ρ s k = contA (convertA X a b (evA X ρ x) s) k := oa_gen rfl (by intros; exact Op.noConfusion)
theorem oa_builtin {b : Builtin} {args : Array Operand} {ts : Array TypeId} : opA X (.call ⟨.builtin b, args, ts⟩) ρ s k = contA (builtinA X b ts (args.toList.map (evA X ρ)) s) k := oa_gen rfl (by intros; exact Op.noConfusion)
theorem oa_call {f : Operand} {args : Array Operand} {ts : Array TypeId} : opA X (.call ⟨.value f, args, ts⟩) ρ s k = callA X (funA (evA X ρ f)) (args.toList.map (evA X ρ)) s k := rfl
theorem oa_makeFunc {f : Nat} {first captured : Array Operand} : opA X (.makeFunc (.func f) first captured) ρ s k = k (.fn f (first.toList.map (evA X ρ)) (captured.toList.map (evA X ρ))) s := rfl
theorem oa_buildSlice {t n : Nat} {ps : Array (Nat × Operand)} : opA X (.buildSlice t n ps) ρ s k = contA (bsliceA X t n (partsA (evA X ρ) ps) s) k := oa_gen rfl (by intros; exact Op.noConfusion)
theorem oa_alloc {t : TypeId} : opA X (.alloc t) ρ s k = contA (newA (X.ty t) t none s) k := oa_gen rfl (by intros; exact Op.noConfusion)
theorem oa_box {t : TypeId} {v : Operand} : opA X (.box t v) ρ s k = contA (newA (X.ty t) t (some (evA X ρ v)) s) k := oa_gen rfl (by intros; exact Op.noConfusion)
theorem oa_makeSlice {t : Nat} {l c : Operand} : opA X (.makeSlice t l c) ρ s k = contA (mksliceA X t (evA X ρ l) (evA X ρ c) s) k := oa_gen rfl (by intros; exact Op.noConfusion)
def mkmapA (X : Prg) (t : Nat) (s : VS) : Option (AV × VS) := match X.und t with
  | some (.map _ _) => some (.map s.size, s.push (.map [] 0))
  | _ => none
theorem oa_makeMap {t : Nat} : opA X (.makeMap t none) ρ s k = contA (mkmapA X t s) k := oa_gen rfl (by intros; exact Op.noConfusion)
def rangeA (X : Prg) (t : Nat) (x : AV) (s : VS) : Option (AV × VS) := match X.und t, x with
  | some .string, .c (.string b) => some (.ptr ⟨s.size, 0, none⟩, s.push (.iter b 0))
  | _, _ => none
theorem oa_range {t : Nat} {x : Operand} : opA X (.range t x) ρ s k = contA (rangeA X t (evA X ρ x) s) k := oa_gen rfl (by intros; exact Op.noConfusion)
theorem oa_next {x : Operand} : opA X (.next x true) ρ s k = contA (nextA (evA X ρ x) s) k := oa_gen rfl (by intros; exact Op.noConfusion)
end
end
section
variable {X : Prg} {d : Wd} {vs : VS} {s : St}
theorem want_sim {ρ : AEnv} {ρ' : Env} (he : ER d ρ ρ') {g : Gd} {b : Bool} (h : wantP g ρ = some b) : wantS g ρ' = b := by
  cases g with
  | always => simp [wantP] at h; subst h; rfl
  | never => simp [wantP] at h; subst h; rfl
  | on t w =>
    simp only [wantP, wantV] at h
    split at h
    · cases h
    · rename_i hb
      cases h
      exact (isA_isB (he t) w (by intro e; exact hb e)).symm
theorem funA_sim {x : AV} {v : Value} (h : VR d x v) {n : Nat} {a b : List AV} (hf : funA x = some (n, a, b)) : ∃ a' b', funOf v = some (n, a', b') ∧ VRs d a a'.toList ∧ VRs d b b'.toList := by
  cases h with
  | fn f a0 b0 a' b' h1 h2 =>
    simp only [funA, Option.some.injEq, Prod.mk.injEq] at hf
    obtain ⟨rfl, rfl, rfl⟩ := hf
    exact ⟨a', b', rfl, h1, h2⟩
  | _ => simp [funA] at hf
theorem opA_sim (h : Rel X d vs s) {ρ : AEnv} {ρ' : Env} (he : ER d ρ ρ') {op : Op} {k : AV → VS → Prop} (ho : opA X op ρ vs k) {k' : Value → St → Prop}
    (hk : ∀ v vs1 d1 v' s1, k v vs1 → VR d1 v v' → Rel X d1 vs1 s1 → Evo d d1 vs vs1 s s1 → (isEff op = false → isNew X op = false → ∀ s2, (∀ x, rdArg op = some x → evA X ρ x ≠ .bad → lenOnly op (evA X ρ x) = false → ∀ b, blkV (evo ρ' x) = some b → s2.get b = s.get b) → ∃ s3, aop X (evo ρ') op s2 = some (v', s3)) → k' v' s1) : opV X op ρ' s k' := by
  have gen : ∀ v vs1, isCall op = none → aopA X (evA X ρ) op vs = some (v, vs1) → k v vs1 → (match aop X (evo ρ') op s with | some (v, s') => k' v s' | none => False) := by
    intro v vs1 hc ha ho
    obtain ⟨v', s1, d1, h1, h2, h3, h4⟩ := aopA_sim h (h.ev he) op v vs1 ha
    simp only [h1]
    exact hk v vs1 d1 v' s1 ho h2 h3 h4 (fun g1 g2 s2 H => aopA_keep h (h.ev he) g1 g2 ha h1 H)
  have kno : isEff op = true → ∀ {p : Prop}, isEff op = false → p := fun h1 p h2 => by rw [h1] at h2; cases h2
  unfold opA at ho
  unfold opV
  split at ho
  · rename_i f args hc
    simp only [hc]
    split at ho
    · rename_i n a b hf
      obtain ⟨a', b', h1, h2, h3⟩ := funA_sim (h.ev he f) hf
      simp only [h1]
      refine WC_mono (ho d s _ h ((h2.append (VRs.ofMap (h.ev he) _)).append h3)) ?_
      rintro r s1 ⟨v, vs1, d1, q1, q2, q3, q4⟩
      exact hk v vs1 d1 r s1 q1 q2 q3 q4 (kno (by
        unfold isCall at hc
        split at hc
        · rfl
        · cases hc))
    · exact ho.elim
  · rename_i hc
    simp only [hc]
    split at ho
    · rename_i o t x y p
      have hx := h.ev he x
      have hy := h.ev he y
      have both : ∀ b : Bool, binOpv X o t (evo ρ' x) (evo ρ' y) = some (.bool b) → k (.c (.bool b)) vs → (match aop X (evo ρ') (.binOp o t x y p) s with | some (v, s') => k' v s' | none => False) := by
        intro b hb hkb
        simp only [aop, hb, Option.map_some]
        exact hk (.c (.bool b)) vs d (.bool b) s hkb (VR.bool b) h (.refl d vs s) (fun g1 g2 s2 H => ⟨s2, by simp only [aop, hb, Option.map_some]⟩)
      unfold binK at ho
      split at ho
      · rename_i sz xs e1 e2
        rw [e1] at hx
        rw [e2] at hy
        obtain ⟨ht, h1, h2⟩ := ho
        obtain ⟨e, hu⟩ : ∃ e, X.und t = some (.slice e) := by
          unfold isSlT at ht; split at ht
          · rename_i e he; exact ⟨e, he⟩
          · cases ht
        generalize evo ρ' x = x' at *
        generalize evo ρ' y = y' at *
        cases hy
        cases hx with
        | lnil => exact both true (by simp [binOpv, eqv, eqv0, hu]) (h1 rfl)
        | lst => exact both false (by simp [binOpv, eqv, eqv0, hu]) h2
      · rename_i sz xs e1 e2
        rw [e1] at hx
        rw [e2] at hy
        obtain ⟨ht, h1, h2⟩ := ho
        obtain ⟨e, hu⟩ : ∃ e, X.und t = some (.slice e) := by
          unfold isSlT at ht; split at ht
          · rename_i e he; exact ⟨e, he⟩
          · cases ht
        generalize evo ρ' x = x' at *
        generalize evo ρ' y = y' at *
        cases hy
        cases hx with
        | lnil => exact both false (by simp [binOpv, eqv, eqv0, hu]) (h1 rfl)
        | lst => exact both true (by simp [binOpv, eqv, eqv0, hu]) h2
      · rename_i e1 e2
        rw [e1] at hx
        rw [e2] at hy
        obtain ⟨ht, h1, h2⟩ := ho
        obtain ⟨e, hu⟩ : ∃ e, X.und t = some (.slice e) := by
          unfold isSlT at ht; split at ht
          · rename_i e he; exact ⟨e, he⟩
          · cases ht
        generalize evo ρ' x = x' at *
        generalize evo ρ' y = y' at *
        cases hy
        cases hx with
        | enil => exact both true (by simp [binOpv, eqv, eqv0, hu]) h1
        | emp => exact both false (by simp [binOpv, eqv, eqv0, hu]) h2
      · rename_i e1 e2
        rw [e1] at hx
        rw [e2] at hy
        obtain ⟨ht, h1, h2⟩ := ho
        obtain ⟨e, hu⟩ : ∃ e, X.und t = some (.slice e) := by
          unfold isSlT at ht; split at ht
          · rename_i e he; exact ⟨e, he⟩
          · cases ht
        generalize evo ρ' x = x' at *
        generalize evo ρ' y = y' at *
        cases hy
        cases hx with
        | enil => exact both false (by simp [binOpv, eqv, eqv0, hu]) h2
        | emp => exact both true (by simp [binOpv, eqv, eqv0, hu]) h1
      · split at ho
        · rename_i v hv
          exact gen v vs hc (by simp only [aopA, hv, Option.map_some]) ho
        · exact ho.elim
    · split at ho
      · rename_i v vs1 ha
        exact gen v vs1 hc ha ho
      · exact ho.elim
theorem vwpS_sound : ∀ (l : List SO) (ρ : AEnv) (ρ' : Env) (d : Wd) (vs : VS) (s : St) (K : AEnv → VS → Prop) (K' : Env → St → Prop), Rel X d vs s → ER d ρ ρ' → vwpS X l ρ vs K →
    (∀ ρ1 vs1 d1 ρ1' s1, K ρ1 vs1 → ER d1 ρ1 ρ1' → Rel X d1 vs1 s1 → Evo d d1 vs vs1 s s1 → K' ρ1' s1) → wpS X l ρ' s K'
  | [], ρ, ρ', d, vs, s, K, K', h, he, hw, hk => by
    rw [wpS]
    exact hk ρ vs d ρ' s hw he h (.refl d vs s)
  | o :: r, ρ, ρ', d, vs, s, K, K', h, he, hw, hk => by
    simp only [vwpS] at hw
    simp only [wpS]
    split at hw
    · rename_i hg
      rw [want_sim he hg]
      refine opA_sim h he hw ?_
      intro v vs1 d1 v' s1 q1 q2 q3 q4 _
      exact vwpS_sound r _ _ d1 vs1 s1 K K' q3 ((he.mono q4.le).put _ q2) q1 fun ρ2 vs2 d2 ρ2' s2 g1 g2 g3 g4 => hk ρ2 vs2 d2 ρ2' s2 g1 g2 g3 (q4.trans g4)
    · rename_i hg
      rw [want_sim he hg]
      exact vwpS_sound r _ _ d vs s K K' h (he.put _ VR.undef) hw hk
    · exact hw.elim
end
attribute [irreducible] binK vwp vwpS vwpD opA contA retA stA callA guardA guardDA condA KA KDA seqA rtA resQ iterA pendQ keptQ
end Go.Proofs.Yticllcglldbffaa.Ab
end
section
namespace Go.Proofs.Yticllcglldbffaa.Ab
variable {X : Prg} {d : Wd} {vs : VS} {s : St}
theorem blk_cases {x : AV} {v : Value} {k : Nat} (h : VR d x v) (hb : x ≠ .bad) (hk : blkV v = some k) : (∃ b, blkOf x = some b ∧ d.φ b = some k) ∨ (blkOf x = none ∧ ∃ o, d.M k = some o) := by
  cases h with
  | bad => exact absurd rfl hb
  | c v hv => cases v <;> first | (simp [blkV] at hk; done) | skip
              · rename_i a; cases a <;> first | (simp [blkV] at hk; done) | (simp [atomV] at hv; done)
              · rename_i a l c; cases a <;> first | (simp [blkV] at hk; done) | (simp [atomV] at hv; done)
              · rename_i a; cases a <;> first | (simp [blkV] at hk; done) | (simp [atomV] at hv; done)
  | ptr a k' h1 => simp [blkV] at hk; subst hk; exact .inl ⟨_, rfl, h1⟩
  | fptr cs off base a o ds h1 h2 h3 h4 => simp [blkV] at hk; subst hk; exact .inr ⟨rfl, o, h1⟩
  | sl a len cap k' h1 => simp [blkV] at hk; subst hk; exact .inl ⟨_, rfl, h1⟩
  | lnil sz => simp [blkV] at hk
  | lst sz xs a n cap o cs ds h1 => simp [blkV] at hk; subst hk; exact .inr ⟨rfl, o, h1⟩
  | enil => simp [blkV] at hk
  | emp a o cap h1 => simp [blkV] at hk; subst hk; exact .inr ⟨rfl, o, h1⟩
  | map r k' h1 => simp [blkV] at hk; subst hk; exact .inl ⟨_, rfl, h1⟩
  | fn => simp [blkV] at hk
  | agg => simp [blkV] at hk
  | tup => simp [blkV] at hk
def PendI (X : Prg) (d : Wd) (vs : VS) (s : St) (pv : List (Nat × (VS → Prop))) (pe : List (Nat × (St → Prop))) : Prop :=
  ∀ i, (lookN pv i = none → lookN pe i = none) ∧ ∀ p, lookN pv i = some p → ∃ q, lookN pe i = some q ∧ ∀ d2 vs2 s2, Rel X d2 vs2 s2 → Evo d d2 vs vs2 s s2 → p vs2 → q s2
def HistI (X : Prg) (d : Wd) (vs : VS) (s : St) (ρ : AEnv) (ρ' : Env) (hv : List HE) (he : List (Nat × St)) : Prop :=
  ∀ i e, lookH hv i = some e → ∃ sj dj, lookN he i = some sj ∧ Rel X dj e.vs sj ∧ Evo dj d e.vs vs sj s ∧ ∀ t, e.since.contains t = false → VR dj (ρ.get t) (ρ'.get t)
theorem PendI.evo {d1 : Wd} {vs1 : VS} {s1 : St} {pv : List (Nat × (VS → Prop))} {pe : List (Nat × (St → Prop))} (h : PendI X d vs s pv pe) (e : Evo d d1 vs vs1 s s1) : PendI X d1 vs1 s1 pv pe := fun i => ⟨(h i).1, fun p hp => by
  obtain ⟨q, h1, h2⟩ := (h i).2 p hp
  exact ⟨q, h1, fun d2 vs2 s2 g1 g2 g3 => h2 d2 vs2 s2 g1 (e.trans g2) g3⟩⟩
theorem PendI.all {pv : List (Nat × (VS → Prop))} {pe : List (Nat × (St → Prop))} (h : PendI X d vs s pv pe) (hr : Rel X d vs s) : ∀ (l : List Nat), pendAll pv vs l → holdsAll pe s l
  | [], _ => trivial
  | i :: l, hp => by
    refine ⟨?_, PendI.all h hr l hp.2⟩
    have h1 := hp.1
    cases hq : lookN pv i with
    | none => rw [(h i).1 hq]; trivial
    | some p =>
      rw [hq] at h1
      obtain ⟨q, h2, h3⟩ := (h i).2 p hq
      rw [h2]
      exact h3 d vs s hr (.refl d vs s) h1
theorem lookH_map (t : Nat) : ∀ (l : List HE) (i : Nat), lookH (l.map fun e => { e with since := t :: e.since }) i = (lookH l i).map fun e => { e with since := t :: e.since }
  | [], _ => rfl
  | e :: l, i => by
    simp only [List.map_cons, lookH]
    split
    · rfl
    · exact lookH_map t l i
theorem HistI.put {d1 : Wd} {vs1 : VS} {s1 : St} {ρ : AEnv} {ρ' : Env} {hv : List HE} {he : List (Nat × St)} (h : HistI X d vs s ρ ρ' hv he) (e : Evo d d1 vs vs1 s s1) (o : Option Nat) (v : AV) (v' : Value) : HistI X d1 vs1 s1 (ρ.put o v) (ρ'.put o v') (since o hv) he := by
  cases o with
  | none =>
    intro i x hx
    obtain ⟨sj, dj, g1, g2, g3, g4⟩ := h i x hx
    exact ⟨sj, dj, g1, g2, g3.trans e, g4⟩
  | some t =>
    intro i x hx
    simp only [since, lookH_map, Option.map_eq_some_iff] at hx
    obtain ⟨y, hy, rfl⟩ := hx
    obtain ⟨sj, dj, g1, g2, g3, g4⟩ := h i y hy
    refine ⟨sj, dj, g1, g2, g3.trans e, fun u hu => ?_⟩
    simp only [List.contains_cons, Bool.or_eq_false_iff, beq_eq_false_iff_ne, ne_eq] at hu
    show VR dj ((ρ.set t v).get u) ((ρ'.set t v').get u)
    rw [AEnv.get_set, Env.get_set, if_neg (fun e => hu.1 e.symm), if_neg (fun e => hu.1 e.symm)]
    exact g4 u hu.2
theorem lookH_j : ∀ {l : List HE} {i : Nat} {e : HE}, lookH l i = some e → e.j = i
  | [], _, _, h => by cases h
  | x :: l, i, e, h => by
    simp only [lookH] at h
    split at h
    · rename_i hj; cases h; exact hj
    · exact lookH_j h
theorem lookH_mapf (f : HE → HE) (hf : ∀ e, (f e).j = e.j) : ∀ (l : List HE) (i : Nat), lookH (l.map f) i = (lookH l i).map f
  | [], _ => rfl
  | e :: l, i => by
    simp only [List.map_cons, lookH, hf]
    split
    · rfl
    · exact lookH_mapf f hf l i
theorem valA_sim (h : Rel X d vs s) {ev : Operand → AV} {ev' : Operand → Value} (he : ∀ x, VR d (ev x) (ev' x)) (op : Op) {v : AV} (hv : valA X ev op vs = some v) : ∃ v' s', aop X ev' op s = some (v', s') ∧ VR d v v' := by
  unfold valA at hv
  split at hv
  · cases hv; exact ⟨_, s, rfl, he _⟩
  · cases hv; exact ⟨_, s, rfl, he _⟩
  · obtain ⟨w, h1, h2⟩ := loadA_sim h (he _) _ v hv
    exact ⟨w, s, by simp only [aop, h1, Option.map_some], h2⟩
  · obtain ⟨w, h1, h2⟩ := sliceA_sim (he _) (OptR.mk he _) (OptR.mk he _) (OptR.mk he _) _ v hv
    exact ⟨w, s, by simp only [aop, h1, Option.map_some], h2⟩
  · obtain ⟨w, h1, h2⟩ := fieldAddrA_sim (he _) _ _ v hv
    exact ⟨w, s, by simp only [aop, h1, Option.map_some], h2⟩
  · obtain ⟨w, h1, h2⟩ := fieldA_sim (he _) _ _ v hv
    exact ⟨w, s, by simp only [aop, h1, Option.map_some], h2⟩
  · obtain ⟨w, h1, h2⟩ := indexAddrA_sim (he _) (he _) _ v hv
    exact ⟨w, s, by simp only [aop, h1, Option.map_some], h2⟩
  · obtain ⟨w, h1, h2⟩ := indexA_sim (he _) (he _) _ v hv
    exact ⟨w, s, by simp only [aop, h1, Option.map_some], h2⟩
  · cases hv
theorem HistI.evS {dj : Wd} {vj : VS} {sj : St} {ρ : AEnv} {ρ' : Env} {l : List Nat} (g2 : Rel X dj vj sj) (g4 : ∀ t, l.contains t = false → VR dj (ρ.get t) (ρ'.get t)) (hr : ∀ t, rigA (ρ.get t) ≠ .bad → VR dj (rigA (ρ.get t)) (ρ'.get t)) : ∀ x, VR dj (Ab.evS X ρ l x) (evo ρ' x)
  | .tmp t => by
    show VR dj (if l.contains t then rigA (ρ.get t) else ρ.get t) (ρ'.get t)
    cases hc : l.contains t with
    | false => rw [if_neg (by simp)]; exact g4 t hc
    | true =>
      rw [if_pos rfl]
      by_cases hb : rigA (ρ.get t) = .bad
      · rw [hb]; exact .bad _
      · exact hr t hb
  | .const v => VR.cv v
  | .global g => g2.globA g
  | .func f => .fn f [] [] #[] #[] .nil .nil
theorem HistI.putQ {d1 : Wd} {vs1 : VS} {s1 : St} {ρ : AEnv} {ρ' : Env} {hv : List HE} {he : List (Nat × St)} (h : HistI X d vs s ρ ρ' hv he) (hE : ER d ρ ρ') (e : Evo d d1 vs vs1 s s1) (o : Option Nat) (v : AV) (v' : Value) (op : Op) (chk : List Nat) (hc : readAll X he op ρ' v' chk) : HistI X d1 vs1 s1 (ρ.put o v) (ρ'.put o v') (sinceQ X op ρ chk o v hv) he := by
  cases o with
  | none =>
    intro i x hx
    obtain ⟨sj, dj, g1, g2, g3, g4⟩ := h i x hx
    exact ⟨sj, dj, g1, g2, g3.trans e, g4⟩
  | some t =>
    intro i x hx
    have hfj : ∀ e, (sinceE X op ρ chk t v e).j = e.j := fun e => by unfold sinceE; split <;> rfl
    simp only [sinceQ, lookH_mapf _ hfj, Option.map_eq_some_iff] at hx
    obtain ⟨y, hy, rfl⟩ := hx
    obtain ⟨sj, dj, g1, g2, g3, g4⟩ := h i y hy
    have hvs : (sinceE X op ρ chk t v y).vs = y.vs := by unfold sinceE; split <;> rfl
    rw [hvs]
    refine ⟨sj, dj, g1, g2, g3.trans e, fun u hu => ?_⟩
    show VR dj ((ρ.set t v).get u) ((ρ'.set t v').get u)
    rw [AEnv.get_set, Env.get_set]
    unfold sinceE at hu
    split at hu
    · rename_i hp
      by_cases hut : t = u
      · rw [if_pos hut, if_pos hut]
        have hmem : ∀ (l : List Nat), readAll X he op ρ' v' l → l.contains y.j = true → sameRead X op ρ' v' sj := by
          intro l
          induction l with
          | nil => intro _ hh; cases hh
          | cons a l ih =>
            intro hr hh
            rw [List.contains_cons, Bool.or_eq_true] at hh
            rcases hh with hh | hh
            · have ha : i = a := by rw [← lookH_j hy]; simpa using hh
              have h1 := hr.1
              rw [← ha, g1] at h1
              exact h1
            · exact ih hr.2 hh
        obtain ⟨s2, hs2⟩ := hmem chk hc hp.1
        obtain ⟨w, s3, h1, h2⟩ := valA_sim g2 (HistI.evS g2 g4 (fun t hb => by
          have := hE t
          unfold rigA at hb ⊢
          split at hb
          · rename_i c hc'
            rw [hc'] at this
            cases this with | c _ h => exact .c _ h
          · exact absurd rfl hb)) op hp.2
        rw [hs2] at h1
        cases h1
        exact h2
      · rw [if_neg hut, if_neg hut]
        exact g4 u hu
    · simp only [List.contains_cons, Bool.or_eq_false_iff, beq_eq_false_iff_ne, ne_eq] at hu
      rw [if_neg (fun e => hu.1 e.symm), if_neg (fun e => hu.1 e.symm)]
      exact g4 u hu.2
theorem HistI.cons {ρ : AEnv} {ρ' : Env} {hv : List HE} {he : List (Nat × St)} (h : HistI X d vs s ρ ρ' hv he) (hr : Rel X d vs s) (hE : ER d ρ ρ') (j : Nat) : HistI X d vs s ρ ρ' (⟨j, vs, []⟩ :: hv) ((j, s) :: he) := by
  intro i x hx
  simp only [lookH] at hx
  simp only [lookN]
  split at hx
  · rename_i hj
    cases hx
    rw [if_pos hj]
    exact ⟨s, d, rfl, hr, .refl d vs s, fun t _ => hE t⟩
  · rename_i hj
    rw [if_neg hj]
    exact h i x hx
theorem vwpD_sound : ∀ (l : List SD) (i : Nat) (hv : List HE) (hE : List (Nat × St)) (pv : List (Nat × (VS → Prop))) (pe : List (Nat × (St → Prop))) (ρ : AEnv) (ρ' : Env) (d : Wd) (vs : VS) (s : St) (K : AEnv → VS → Prop) (K' : Env → St → Prop), Rel X d vs s → ER d ρ ρ' →
    PendI X d vs s pv pe → HistI X d vs s ρ ρ' hv hE → vwpD X l i hv pv ρ vs K →
    (∀ ρ1 vs1 d1 ρ1' s1, K ρ1 vs1 → ER d1 ρ1 ρ1' → Rel X d1 vs1 s1 → Evo d d1 vs vs1 s s1 → K' ρ1' s1) → wpD X l i hE pe ρ' s K'
  | [], i, hv, hE, pv, pe, ρ, ρ', d, vs, s, K, K', h, he, hp, hh, hw, hk => by
    rw [wpD]
    rw [vwpD] at hw
    exact hk ρ vs d ρ' s hw he h (.refl d vs s)
  | o :: r, i, hv, hE, pv, pe, ρ, ρ', d, vs, s, K, K', h, he, hp, hh, hw, hk => by
    simp only [vwpD] at hw
    simp only [wpD]
    split at hw
    · exact hw.elim
    · rename_i hg
      rw [want_sim he hg]
      refine opA_sim h he hw ?_
      intro v vs1 d1 v' s1 q1 q2 q3 q4 q5
      have he1 := (he.mono q4.le).put o.so.dst q2
      have hk1 : ∀ ρ2 vs2 d2 ρ2' s2, K ρ2 vs2 → ER d2 ρ2 ρ2' → Rel X d2 vs2 s2 → Evo d1 d2 vs1 vs2 s1 s2 → K' ρ2' s2 := fun ρ2 vs2 d2 ρ2' s2 g1 g2 g3 g4 => hk ρ2 vs2 d2 ρ2' s2 g1 g2 g3 (q4.trans g4)
      split at q1
      · rename_i hk1'
        rw [if_pos hk1']
        refine ⟨(hp.evo q4).all q3 _ q1.1, ?_⟩
        exact vwpD_sound r _ _ _ _ _ _ _ d1 vs1 s1 K K' q3 he1 (hp.evo q4) ((hh.cons h he i).put q4 _ _ _) q1.2 hk1
      · rename_i hk1'
        rw [if_neg hk1']
        split at q1
        · rename_i hk2
          rw [if_pos hk2]
          obtain ⟨⟨e1, e2, e3⟩, e4, e5⟩ := q1
          have a1 := q5 e1 e2
          have hev := h.ev he
          have hread : readAll X hE o.so.op ρ' v' o.chk := by
            have main : ∀ (l : List Nat), keptAll X hv o.so.op ρ vs l → readAll X hE o.so.op ρ' v' l := by
              intro l
              induction l with
              | nil => intro _; trivial
              | cons j l ih =>
                intro hq
                refine ⟨?_, ih hq.2⟩
                have h1 := hq.1
                cases hj : lookH hv j with
                | none => rw [hj] at h1; exact h1.elim
                | some e =>
                  rw [hj] at h1
                  obtain ⟨sj, dj, g1, g2, g3, g4⟩ := hh j e hj
                  rw [g1]
                  show sameRead X o.so.op ρ' v' sj
                  refine a1 _ ?_
                  intro x hx hb hlo k hbk
                  simp only [keptA, hx, hlo] at h1
                  rcases blk_cases (hev x) hb hbk with ⟨b, b1, b2⟩ | ⟨b1, y, b2⟩
                  · rw [b1] at h1
                    exact (g3.ver b k h1.1 (by rw [← g3.phi b h1.1]; exact b2) h1.2).symm
                  · rw [b1] at h1
                    have hvr : VR dj (evA X ρ x) (evo ρ' x) := by
                      cases x with
                      | tmp t => exact g4 t h1
                      | const v => exact VR.cv v
                      | global g => exact g2.globA g
                      | func f => exact .fn f [] [] #[] #[] .nil .nil
                    rcases blk_cases hvr hb hbk with ⟨b, b3, _⟩ | ⟨_, z, b3⟩
                    · rw [b1] at b3; cases b3
                    · rw [g2.frz _ _ b3, h.frz _ _ (g3.le.frz _ _ b3)]
            exact main _ e4
          refine ⟨aeqSelf_of q2 e3, hread, ?_⟩
          · refine vwpD_sound r _ _ _ _ _ _ _ d1 vs1 s1 K K' q3 he1 ?_ (hh.putQ he q4 _ _ _ _ _ hread) e5 hk1
            intro m
            simp only [lookN]
            split
            · refine ⟨fun hn => (by cases hn), fun p hpq => ?_⟩
              cases hpq
              refine ⟨_, rfl, fun d2 vs2 s2 g1 g2 g3 => ?_⟩
              have g2 := q4.trans g2
              refine a1 _ ?_
              intro x hx hb _ k hbk
              simp only [keepsA, hx] at g3
              rcases blk_cases (hev x) hb hbk with ⟨b, b1, b2⟩ | ⟨b1, y, b2⟩
              · rw [b1] at g3
                exact g2.ver b k (h.lt b k b2).1 b2 g3
              · rw [h.frz _ _ b2, g1.frz _ _ (g2.le.frz _ _ b2)]
            · exact (hp.evo q4) m
        · rename_i hk2
          rw [if_neg hk2]
          exact vwpD_sound r _ _ _ _ _ _ _ d1 vs1 s1 K K' q3 he1 (hp.evo q4) (hh.put q4 _ _ _) q1 hk1
    · rename_i hg
      rw [want_sim he hg]
      have he1 := he.put o.so.dst (VR.undef (d := d))
      simp only
      split at hw
      · rename_i hk1'
        rw [if_pos hk1']
        exact ⟨hp.all h _ hw.1, vwpD_sound r _ _ _ _ _ _ _ d vs s K K' h he1 hp ((hh.cons h he i).put (.refl d vs s) _ _ _) hw.2 hk⟩
      · rename_i hk1'
        rw [if_neg hk1']
        exact vwpD_sound r _ _ _ _ _ _ _ d vs s K K' h he1 hp (hh.put (.refl d vs s) _ _ _) hw hk
theorem boolA_sim {x : AV} {v : Value} (h : VR d x v) {b : Bool} (hb : boolA x = some b) : boolOf v = some b := by
  unfold boolA at hb
  split at hb
  · cases h; exact hb
  · cases hb
theorem vwp_sound : ∀ (c : Code) (ρ : AEnv) (ρ' : Env) (d : Wd) (vs : VS) (s : St) (Q : Xit → AEnv → VS → Prop) (Q' : Xit → Env → St → Prop), Rel X d vs s → ER d ρ ρ' → vwp X c ρ vs Q →
    (∀ e ρ1 vs1 d1 ρ1' s1, Q e ρ1 vs1 → ER d1 ρ1 ρ1' → Rel X d1 vs1 s1 → Evo d d1 vs vs1 s s1 → Q' e ρ1' s1) → wp X c ρ' s Q' := by
  intro c
  have other : ∀ (c : Code) (ρ : AEnv) (ρ' : Env) (d : Wd) (vs : VS) (s : St) (Q : Xit → AEnv → VS → Prop) (Q' : Xit → Env → St → Prop), Rel X d vs s → ER d ρ ρ' → VW X c ρ vs Q →
      (∀ e ρ1 vs1 d1 ρ1' s1, Q e ρ1 vs1 → ER d1 ρ1 ρ1' → Rel X d1 vs1 s1 → Evo d d1 vs vs1 s s1 → Q' e ρ1' s1) → W X c ρ' s Q' := by
    intro c ρ ρ' d vs s Q Q' h he hw hk
    refine W_mono (hw d s ρ' h he) ?_
    rintro e ρ1' s1 ⟨ρ1, vs1, d1, q1, q2, q3, q4⟩
    exact hk e ρ1 vs1 d1 ρ1' s1 q1 q2 q3 q4
  induction c with
  | region id ops draw =>
    intro ρ ρ' d vs s Q Q' h he hw hk
    simp only [vwp] at hw
    simp only [wp]
    split at hw
    · rename_i hr
      rw [if_pos hr]
      exact vwpS_sound _ ρ ρ' d vs s _ _ h he hw fun ρ1 vs1 d1 ρ1' s1 g1 g2 g3 g4 => hk .normal ρ1 vs1 d1 ρ1' s1 g1 g2 g3 g4
    · rename_i hr
      rw [if_neg hr]
      refine ⟨hw.1, vwpD_sound _ 0 [] [] [] [] ρ ρ' d vs s _ _ h he (fun i => ⟨fun _ => rfl, fun p hp => by cases hp⟩) (fun i e he => by cases he) hw.2 fun ρ1 vs1 d1 ρ1' s1 g1 g2 g3 g4 => hk .normal ρ1 vs1 d1 ρ1' s1 g1 g2 g3 g4⟩
  | seq a b iha ihb =>
    intro ρ ρ' d vs s Q Q' h he hw hk
    simp only [vwp] at hw
    simp only [wp]
    refine iha ρ ρ' d vs s _ _ h he hw ?_
    intro e ρ1 vs1 d1 ρ1' s1 q1 q2 q3 q4
    cases e with
    | normal => exact ihb ρ1 ρ1' d1 vs1 s1 _ _ q3 q2 q1 fun e ρ2 vs2 d2 ρ2' s2 g1 g2 g3 g4 => hk e ρ2 vs2 d2 ρ2' s2 g1 g2 g3 (q4.trans g4)
    | exit i => exact hk _ ρ1 vs1 d1 ρ1' s1 q1 q2 q3 q4
    | goto i => exact hk _ ρ1 vs1 d1 ρ1' s1 q1 q2 q3 q4
    | ret => exact hk _ ρ1 vs1 d1 ρ1' s1 q1 q2 q3 q4
  | cond x a b iha ihb =>
    intro ρ ρ' d vs s Q Q' h he hw hk
    simp only [vwp] at hw
    simp only [wp]
    split at hw
    · rename_i hb
      rw [boolA_sim (h.ev he x) hb]
      exact iha ρ ρ' d vs s _ _ h he hw hk
    · rename_i hb
      rw [boolA_sim (h.ev he x) hb]
      exact ihb ρ ρ' d vs s _ _ h he hw hk
    · exact hw.elim
  | block id a ih =>
    intro ρ ρ' d vs s Q Q' h he hw hk
    simp only [vwp] at hw
    simp only [wp]
    refine ih ρ ρ' d vs s _ _ h he hw ?_
    intro e ρ1 vs1 d1 ρ1' s1 q1 q2 q3 q4
    cases e with
    | exit i =>
      simp only [blockA] at q1
      simp only [blockQ]
      split at q1
      · rename_i hi; rw [if_pos hi]; exact hk _ ρ1 vs1 d1 ρ1' s1 q1 q2 q3 q4
      · rename_i hi; rw [if_neg hi]; exact hk _ ρ1 vs1 d1 ρ1' s1 q1 q2 q3 q4
    | normal => exact hk _ ρ1 vs1 d1 ρ1' s1 q1 q2 q3 q4
    | goto i => exact hk _ ρ1 vs1 d1 ρ1' s1 q1 q2 q3 q4
    | ret => exact hk _ ρ1 vs1 d1 ρ1' s1 q1 q2 q3 q4
  | skip | label l | exit l | goto l | ret =>
    intro ρ ρ' d vs s Q Q' h he hw hk
    simp only [vwp] at hw
    simp only [wp]
    exact hk _ ρ vs d ρ' s hw he h (.refl d vs s)
  | _ =>
    intro ρ ρ' d vs s Q Q' h he hw hk
    simp only [wp]
    simp only [vwp] at hw
    exact other _ ρ ρ' d vs s Q Q' h he hw hk
theorem VW_iter {c : Code} {ρ : AEnv} {Q : Xit → AEnv → VS → Prop} (I : Nat → AEnv → VS → Prop) (m : Nat) (h0 : I m ρ vs) (h : ∀ m ρ vs, I m ρ vs → vwp X c ρ vs (iterA I m Q)) : VW X (.loop c) ρ vs Q := by
  intro d s ρ' hr he
  refine W_iter (fun m ρ1' s1 => ∃ ρ1 vs1 d1, I m ρ1 vs1 ∧ ER d1 ρ1 ρ1' ∧ Rel X d1 vs1 s1 ∧ Evo d d1 vs vs1 s s1) m ⟨ρ, vs, d, h0, he, hr, .refl d vs s⟩ ?_
  rintro m ρ1' s1 ⟨ρ1, vs1, d1, q1, q2, q3, q4⟩
  refine vwp_sound c ρ1 ρ1' d1 vs1 s1 _ _ q3 q2 (h m ρ1 vs1 q1) ?_
  intro e ρ2 vs2 d2 ρ2' s2 g1 g2 g3 g4
  unfold iterP
  unfold iterA at g1
  cases e with
  | normal =>
    obtain ⟨m', h1, h2⟩ := g1
    exact ⟨m', h1, ρ2, vs2, d2, h2, g2, g3, q4.trans g4⟩
  | exit i => exact ⟨ρ2, vs2, d2, g1, g2, g3, q4.trans g4⟩
  | goto i => exact ⟨ρ2, vs2, d2, g1, g2, g3, q4.trans g4⟩
  | ret => exact ⟨ρ2, vs2, d2, g1, g2, g3, q4.trans g4⟩
theorem resA_sim (h : Rel X d vs s) {ρ : AEnv} {ρ' : Env} (he : ER d ρ ρ') : ∀ (rs : List ResultVar) (l : List AV), resA X ρ vs rs = some l → ∃ l', resvs X ρ' s rs = some l' ∧ VRs d l l'
  | [], l, hr => by simp [resA] at hr; subst hr; exact ⟨[], rfl, .nil⟩
  | .tmp t :: rs, l, hr => by
    simp only [resA, Option.map_eq_some_iff] at hr
    obtain ⟨l0, h1, rfl⟩ := hr
    obtain ⟨l', h2, h3⟩ := resA_sim h he rs l0 h1
    refine ⟨ρ'.get t :: l', ?_, .cons _ _ _ _ (he t) h3⟩
    rw [resvs_tmp, h2]; rfl
  | .cell a t :: rs, l, hr => by
    simp only [resA] at hr
    split at hr
    · rename_i v l0 h1 h2
      cases hr
      obtain ⟨l', h3, h4⟩ := resA_sim h he rs l0 h2
      obtain ⟨v', h5, h6⟩ := loadA_sim h (he a) t v h1
      exact ⟨v' :: l', by rw [resvs_cell, h5, h3]; rfl, .cons _ _ _ _ h6 h4⟩
    · cases hr
theorem tupAs_sim : ∀ {l : List AV} {l' : List Value}, VRs d l l' → VR d (tupAs l) (tupv l')
  | _, _, .nil => .tup _ _ .nil
  | _, _, .cons v v' _ _ h .nil => h
  | _, _, .cons v v' _ _ h (.cons w w' _ _ h2 h3) => .tup _ _ (.cons _ _ _ _ h (.cons _ _ _ _ h2 h3))
theorem ER.fill : ∀ {l : List AV} {l' : List Value}, VRs d l l' → ∀ (i : Nat) {ρ : AEnv} {ρ' : Env}, ER d ρ ρ' → ER d (AEnv.fill i l ρ) (Env.fill i l' ρ')
  | _, _, .nil, i, _, _, he => he
  | _, _, .cons v v' l l' h1 h2, i, _, _, he => ER.fill h2 (i + 1) (he.put (some i) h1)
theorem ER.of {l : List AV} {l' : List Value} (h : VRs d l l') : ER d (AEnv.of l) (Env.of l') := ER.fill h 0 fun i => VR.undef
theorem VC_in {f : Nat} {args : List AV} {Q : AV → VS → Prop} {fn : Func} {c : Code} {rs : List ResultVar} (hk : ∀ args' : List Value, args'.length = args.length → X.known f args' = none) (hf : X.fn f = some fn) (hc : fn.body = some c) (hr : fn.results.toList = rs) {n : Nat} (hn : fn.ntmps = n) (hl : Nat.ble args.length n = true) (h : vwp X c (AEnv.of args) vs (rtA X rs Q)) : VC X f args vs Q := by
  intro d s args' hrel ha
  refine WC_in (hk args' ha.length.symm) hf hc hr hn (by rw [← ha.length]; exact hl) ?_
  refine vwp_sound c _ _ d vs s _ _ hrel (ER.of ha) h ?_
  intro e ρ1 vs1 d1 ρ1' s1 q1 q2 q3 q4
  have key : (match resA X ρ1 vs1 rs with | some vs => Q (tupAs vs) vs1 | none => False) → resK (resvs X ρ1' s1 rs) s1 fun r s' => ∃ v vs' d', Q v vs' ∧ VR d' v r ∧ Rel X d' vs' s' ∧ Evo d d' vs vs' s s' := by
    intro hq
    split at hq
    · rename_i l hl
      obtain ⟨l', h1, h2⟩ := resA_sim q3 q2 rs l hl
      rw [h1, resK_some]
      exact ⟨_, vs1, d1, hq, tupAs_sim h2, q3, q4⟩
    · exact hq.elim
  unfold rtA at q1
  cases e with
  | normal => rw [rtP_normal]; exact key q1
  | ret => rw [rtP_ret]; exact key q1
  | exit i => exact q1.elim
  | goto i => exact q1.elim
theorem WC_entry {X : Prg} {f : Nat} {args : List Value} {s : St} {Q : Value → St → Prop} {fn : Func} {v : Value} {s' : St} (hk : X.known f args = none) (hf : X.fn f = some fn) (hb : fn.body = none) (he : entry X fn args s = some (v, s')) (h : Q v s') : WC X f args s Q := by
  refine ⟨0, v, s', ?_, h⟩
  unfold acall enter
  simp only [hk, hf, hb]
  exact he
theorem VC_same {f : Nat} {x : AV} {Q : AV → VS → Prop} {fn : Func} (hk : ∀ args' : List Value, args'.length = 1 → X.known f args' = none) (hf : X.fn f = some fn) (hb : fn.body = none) (hn : isSame fn = true) (h : Q x vs) : VC X f [x] vs Q := by
  intro d s args' hrel ha
  cases ha with | cons _ x' _ _ hx h2 =>
  cases h2
  refine WC_entry (hk _ rfl) hf hb (v := x') (s' := s) ?_ ⟨x, vs, d, h, hx, hrel, .refl d vs s⟩
  unfold entry
  rw [if_pos hn]
theorem VC_noZero {f : Nat} {n : Int} {Q : AV → VS → Prop} {fn : Func} {t e : TypeId} (hk : ∀ args' : List Value, args'.length = 1 → X.known f args' = none) (hf : X.fn f = some fn) (hb : fn.body = none) (hs : isSame fn = false) (hn : isNoZero fn = true)
    (ht : fn.resultTypes.toList = [t]) (hu : X.und t = some (.slice e)) (he : X.und e = some (.int .u8)) (h0 : 0 ≤ n) (hr : roomOk n.toNat 1 = true) (h : Q (.sl ⟨vs.size, 0, none⟩ n.toNat (capO 0)) (vs.push (.own ⟨[], e, 0, 0, false⟩))) : VC X f [.c (.int .i64 n)] vs Q := by
  intro d s args' hrel ha
  cases ha with | cons _ x' _ _ hx h2 =>
  cases h2
  cases hx
  obtain ⟨g1, g2, g3⟩ := hrel.push (OR.mk (.nil : VRs d [] []) e 0 0 false)
  refine WC_entry (hk _ rfl) hf hb (v := .slice (some ⟨s.size, 0, none⟩) n.toNat (capO 0)) (s' := s.push (.own ⟨[], e, 0, 0, false⟩)) ?_ ⟨_, _, _, h, VR.newSl _ _, g1, g2⟩
  unfold entry
  rw [if_neg (by rw [hs]; exact Bool.false_ne_true), if_pos hn]
  simp only [ht, hu, he]
  rw [if_pos ⟨h0, hr⟩]
theorem VC_byteAt {f : Nat} {b : ByteArray} {c : Int} {Q : AV → VS → Prop} {fn : Func} (hk : ∀ args' : List Value, args'.length = 2 → X.known f args' = none) (hf : X.fn f = some fn) (hb : fn.body = none) (hs : isSame fn = false) (hz : isNoZero fn = false) (hn : isByteAt fn = true)
    (h : Q (.c (.int .i64 (firstIdx b c.toNat.toUInt8))) vs) : VC X f [.c (.string b), .c (.int .u8 c)] vs Q := by
  intro d s args' hrel ha
  cases ha with | cons _ x' _ _ hx h2 =>
  cases h2 with | cons _ y' _ _ hy h3 =>
  cases h3
  cases hx
  cases hy
  refine WC_entry (hk _ rfl) hf hb (v := .int .i64 (firstIdx b c.toNat.toUInt8)) (s' := s) ?_ ⟨_, vs, d, h, VR.int _ _, hrel, .refl d vs s⟩
  unfold entry
  rw [if_neg (by rw [hs]; exact Bool.false_ne_true), if_neg (by rw [hz]; exact Bool.false_ne_true), if_pos hn]
theorem VC_count {f : Nat} {b : ByteArray} {c : Int} {Q : AV → VS → Prop} {fn : Func} (hk : ∀ args' : List Value, args'.length = 2 → X.known f args' = none) (hf : X.fn f = some fn) (hb : fn.body = none) (hs : isSame fn = false) (hz : isNoZero fn = false) (hy : isByteAt fn = false) (hn : isCount fn = true)
    (h : Q (.c (.int .i64 (Lib.countByte b.data.toList c.toNat.toUInt8))) vs) : VC X f [.c (.string b), .c (.int .u8 c)] vs Q := by
  intro d s args' hrel ha
  cases ha with | cons _ x' _ _ hx h2 =>
  cases h2 with | cons _ y' _ _ hy h3 =>
  cases h3
  cases hx
  cases hy
  refine WC_entry (hk _ rfl) hf hb (v := .int .i64 (Lib.countByte b.data.toList c.toNat.toUInt8)) (s' := s) ?_ ⟨_, vs, d, h, VR.int _ _, hrel, .refl d vs s⟩
  unfold entry
  rw [if_neg (by rw [hs]; exact Bool.false_ne_true), if_neg (by rw [hz]; exact Bool.false_ne_true), if_neg (by rw [‹isByteAt fn = false›]; exact Bool.false_ne_true), if_pos hn]
theorem VC_cmp {f : Nat} {a b : ByteArray} {Q : AV → VS → Prop} {fn : Func} (hk : ∀ args' : List Value, args'.length = 2 → X.known f args' = none) (hf : X.fn f = some fn) (hb : fn.body = none) (hs : isSame fn = false) (hz : isNoZero fn = false) (hy : isByteAt fn = false) (hc : isCount fn = false) (hn : isCmp fn = true)
    (h : Q (.c (.int .i64 (Lib.compareBytes a.data.toList b.data.toList))) vs) : VC X f [.c (.string a), .c (.string b)] vs Q := by
  intro d s args' hrel ha
  cases ha with | cons _ x' _ _ hx h2 =>
  cases h2 with | cons _ y' _ _ hy h3 =>
  cases h3
  cases hx
  cases hy
  refine WC_entry (hk _ rfl) hf hb (v := .int .i64 (Lib.compareBytes a.data.toList b.data.toList)) (s' := s) ?_ ⟨_, vs, d, h, VR.int _ _, hrel, .refl d vs s⟩
  unfold entry
  rw [if_neg (by rw [hs]; exact Bool.false_ne_true), if_neg (by rw [hz]; exact Bool.false_ne_true), if_neg (by rw [‹isByteAt fn = false›]; exact Bool.false_ne_true), if_neg (by rw [hc]; exact Bool.false_ne_true), if_pos hn]
theorem VC_mono {f : Nat} {args : List AV} {Q R : AV → VS → Prop} (h : VC X f args vs Q) (hQ : ∀ v vs', Q v vs' → R v vs') : VC X f args vs R := by
  intro d s args' hr ha
  refine WC_mono (h d s args' hr ha) ?_
  rintro r s' ⟨v, vs', d', q1, q2⟩
  exact ⟨v, vs', d', hQ _ _ q1, q2⟩
theorem VC_known {f : Nat} {ws : List Value} {Q : AV → VS → Prop} {v : Value} (hk : X.known f ws = some v) (ha : ws.all plainV = true) (hv : cstOk 4 v = true) (h : Q (cv v) vs) : VC X f (ws.map .c) vs Q := by
  intro d s args' hr hargs
  have : args' = ws := by
    have : ∀ (ws : List Value) (args' : List Value), VRs d (ws.map AV.c) args' → args' = ws := by
      intro ws
      induction ws with
      | nil => intro a h; cases h; rfl
      | cons w ws ih =>
        intro a h
        rw [List.map_cons] at h
        cases h with | cons _ v' _ l' h1 h2 =>
        rw [h1.low1 rfl, ih _ h2]
    exact this ws args' hargs
  subst this
  exact WC_known hk ha hv hr.laidOk ⟨cv v, vs, d, h, VR.cv v, hr, .refl d vs s⟩
end Go.Proofs.Yticllcglldbffaa.Ab
end
section
namespace Go.Proofs.Yticllcglldbffaa.Ab
variable {X : Prg} {d : Wd} {vs : VS} {s : St}
def Firm (v : AV) : Prop := ∀ d d' x, (∀ k o, d.M k = some o → d'.M k = some o) → VR d v x → VR d' v x
def Rigid (v : AV) : Prop := ∀ d d' x, VR d v x → VR d' v x
theorem firms {l : List AV} (h : ∀ v ∈ l, Firm v) {d d' : Wd} (hm : ∀ k o, d.M k = some o → d'.M k = some o) : ∀ {l'}, VRs d l l' → VRs d' l l' := by
  induction l with
  | nil => intro l' k; cases k; exact .nil
  | cons v l ih =>
    intro l' k
    cases k with | cons _ v' _ l' h1 h2 =>
    exact .cons _ _ _ _ (h v (by simp) d d' v' hm h1) (ih (fun u hu => h u (by simp [hu])) h2)
theorem Firm.c (v : Value) : Firm (.c v) := fun d d' x hm h => by cases h with | c _ h => exact .c _ h
theorem Firm.emp : Firm .emp := fun d d' x hm h => by
  cases h with
  | enil => exact .enil
  | emp a o cap h1 h2 h3 => exact .emp a o cap (hm _ _ h1) h2 h3
theorem Firm.lst {sz : Nat} {xs : List (List AV)} (h : ∀ x ∈ xs, ∀ v ∈ x, Firm v) : Firm (.lst sz xs) := fun d d' x hm hv => by
  cases hv with
  | lnil => exact .lnil sz
  | lst _ _ a n cap o cs ds h1 h2 h3 h4 h5 h6 h7 =>
    subst h6
    exact .lst sz xs a n cap o _ ds (hm _ _ h1) h2 h3 h4 h5 rfl (firms (fun v hv => by
      obtain ⟨l, hl, hv⟩ := List.mem_flatten.1 hv
      exact h l hl v hv) hm h7)
theorem Firm.fptr {cs : List AV} {off : Nat} (h : ∀ v ∈ cs, Firm v) : Firm (.fptr cs off) := fun d d' x hm hv => by
  cases hv with
  | fptr _ _ base a o ds h1 h2 h3 h4 => exact .fptr cs off base a o ds (hm _ _ h1) h2 h3 (firms h hm h4)
theorem Firm.agg {cs : List AV} (h : ∀ v ∈ cs, Firm v) : Firm (.agg cs) := fun d d' x hm hv => by
  cases hv with | agg _ cs' h1 => exact .agg _ _ (firms h hm h1)
theorem Firm.tup {cs : List AV} (h : ∀ v ∈ cs, Firm v) : Firm (.tup cs) := fun d d' x hm hv => by
  cases hv with | tup _ cs' h1 => exact .tup _ _ (firms h hm h1)
theorem Firm.fn {f : Nat} {a b : List AV} (ha : ∀ v ∈ a, Firm v) (hb : ∀ v ∈ b, Firm v) : Firm (.fn f a b) := fun d d' x hm hv => by
  cases hv with | fn _ _ _ a' b' h1 h2 => exact .fn f a b a' b' (firms ha hm h1) (firms hb hm h2)
theorem rigids {l : List AV} (h : ∀ v ∈ l, Rigid v) {d d' : Wd} : ∀ {l'}, VRs d l l' → VRs d' l l' := by
  induction l with
  | nil => intro l' k; cases k; exact .nil
  | cons v l ih =>
    intro l' k
    cases k with | cons _ v' _ l' h1 h2 =>
    exact .cons _ _ _ _ (h v (by simp) d d' v' h1) (ih (fun u hu => h u (by simp [hu])) h2)
theorem Rigid.c (v : Value) : Rigid (.c v) := fun d d' x h => by cases h with | c _ h => exact .c _ h
theorem Rigid.agg {cs : List AV} (h : ∀ v ∈ cs, Rigid v) : Rigid (.agg cs) := fun d d' x hv => by
  cases hv with | agg _ cs' h1 => exact .agg _ _ (rigids h h1)
theorem Rigid.tup {cs : List AV} (h : ∀ v ∈ cs, Rigid v) : Rigid (.tup cs) := fun d d' x hv => by
  cases hv with | tup _ cs' h1 => exact .tup _ _ (rigids h h1)
noncomputable def fz (P N : Nat → Prop) (d : Wd) (s : St) : Wd := by
  classical exact ⟨fun b => if N b then d.φ b else none, fun k => match d.M k with
    | some o => some o
    | none => if ∃ b, P b ∧ d.φ b = some k then s.get k else none⟩
theorem fz_old {P N : Nat → Prop} {k : Nat} {o : AObj} (h : d.M k = some o) : (fz P N d s).M k = some o := by
  unfold fz; simp only [h]
theorem fz_new {P N : Nat → Prop} {b k : Nat} (hr : Rel X d vs s) (hp : P b) (hk : d.φ b = some k) {o : AObj} (hg : s.get k = some o) : (fz P N d s).M k = some o := by
  unfold fz
  simp only
  cases hm : d.M k with
  | some o' =>
    simp only
    rw [← hr.frz _ _ hm]; exact hg
  | none =>
    simp only
    rw [if_pos ⟨b, hp, hk⟩]; exact hg
theorem fz_frz {P N : Nat → Prop} (hr : Rel X d vs s) {k : Nat} {o : AObj} (h : (fz P N d s).M k = some o) : s.get k = some o := by
  unfold fz at h
  simp only at h
  cases hm : d.M k with
  | some o' => rw [hm] at h; simp only at h; rw [← h]; exact hr.frz _ _ hm
  | none =>
    rw [hm] at h; simp only at h
    split at h
    · exact h
    · cases h
theorem fz_phi {P N : Nat → Prop} {b k : Nat} (h : (fz P N d s).φ b = some k) : d.φ b = some k := by
  unfold fz at h
  simp only at h
  split at h
  · exact h
  · cases h
theorem fz_phiN {P N : Nat → Prop} {b : Nat} (h : N b) : (fz P N d s).φ b = d.φ b := by unfold fz; simp only; rw [if_pos h]
def Se (X : Prg) (P N : Nat → Prop) (vs : VS) (v w : AV) : Prop := ∀ d s x, Rel X d vs s → VR d v x → VR (fz P N d s) w x
def Ses (X : Prg) (P N : Nat → Prop) (vs : VS) (l m : List AV) : Prop := ∀ d s xs, Rel X d vs s → VRs d l xs → VRs (fz P N d s) m xs
variable {P N : Nat → Prop}
theorem Ses.nil : Ses X P N vs [] [] := fun d s xs hr h => by cases h; exact .nil
theorem Ses.cons {v w : AV} {l m : List AV} (h : Se X P N vs v w) (k : Ses X P N vs l m) : Ses X P N vs (v :: l) (w :: m) := fun d s xs hr q => by
  cases q with | cons _ v' _ l' h1 h2 =>
  exact .cons _ _ _ _ (h d s v' hr h1) (k d s l' hr h2)
theorem Ses.append {l m l2 m2 : List AV} (h : Ses X P N vs l m) (k : Ses X P N vs l2 m2) : Ses X P N vs (l ++ l2) (m ++ m2) := by
  intro d s xs hr q
  have e : xs = xs.take l.length ++ xs.drop l.length := (List.take_append_drop _ _).symm
  have h1 := q.take l.length
  have h2 := q.drop l.length
  rw [List.take_left' rfl] at h1
  rw [List.drop_left' rfl] at h2
  rw [e]
  exact (h d s _ hr h1).append (k d s _ hr h2)
theorem Se.firm {v : AV} (h : Firm v) : Se X P N vs v v := fun d s x hr hv => h d _ x (fun k o hk => fz_old hk) hv
theorem Ses.firm {l : List AV} (h : ∀ v ∈ l, Firm v) : Ses X P N vs l l := fun d s xs hr hv => firms h (fun k o hk => fz_old hk) hv
theorem Se.c (v : Value) : Se X P N vs (.c v) (.c v) := Se.firm (Firm.c v)
theorem Se.nil (sz : Nat) : Se X P N vs (.c (.slice none 0 0)) (.lst sz []) := fun d s x hr h => by cases h; exact .lnil sz
theorem Se.emp (sz : Nat) : Se X P N vs .emp (.lst sz []) := fun d s x hr h => by
  cases h with
  | enil => exact .lnil sz
  | emp a o cap h1 h2 h3 =>
    subst h3
    exact .lst sz [] a 0 _ o [] [] (fz_old h1) rfl (by rw [Nat.zero_mul]; exact h2) (fun x hx => by cases hx) (Nat.zero_le _) rfl .nil
theorem Se.agg {l m : List AV} (h : Ses X P N vs l m) : Se X P N vs (.agg l) (.agg m) := fun d s x hr q => by
  cases q with | agg _ cs' h1 => exact .agg _ _ (h d s _ hr h1)
theorem Se.tup {l m : List AV} (h : Ses X P N vs l m) : Se X P N vs (.tup l) (.tup m) := fun d s x hr q => by
  cases q with | tup _ cs' h1 => exact .tup _ _ (h d s _ hr h1)
theorem Se.fn {f : Nat} {a b a2 b2 : List AV} (ha : Ses X P N vs a a2) (hb : Ses X P N vs b b2) : Se X P N vs (.fn f a b) (.fn f a2 b2) := fun d s x hr q => by
  cases q with | fn _ _ _ a' b' h1 h2 => exact .fn f _ _ a' b' (ha d s _ hr h1) (hb d s _ hr h2)
theorem Se.sl {a : Addr} {len cap sz : Nat} {r : VRow} {xs : List (List AV)} (hg : vs.get a.block = some (.own r)) (hp : P a.block) (he : ep a = r.ep) (hl : a.off + len * sz ≤ r.cs.length) (hc : len ≤ cap / 2) (hn : xs.length = len) (hz : ∀ x ∈ xs, x.length = sz)
    (h : Ses X P N vs ((r.cs.drop a.off).take (len * sz)) xs.flatten) : Se X P N vs (.sl a len cap) (.lst sz xs) := fun d s x hr q => by
  cases q with | sl _ _ _ k hk =>
  obtain ⟨k1, o, h1, h2, h3⟩ := hr.live _ _ hg
  rw [hk] at h1; cases h1
  cases h3 with | own _ r' q =>
  subst hn
  refine .lst sz xs ⟨k, a.off, a.spot⟩ _ cap (.own r') _ (fz_new hr hp hk h2) rfl (ds := (r'.cs.drop a.off).take (xs.length * sz)) ?_ hz hc rfl (h d s _ hr ((q.cs.drop _).take _))
  show (if ep a = r'.ep ∧ a.off + xs.length * sz ≤ r'.cs.length then _ else _) = _
  rw [if_pos ⟨by rw [q.ep]; exact he, by rw [← q.cs.length]; exact hl⟩]
theorem Se.ptr {a : Addr} {r : VRow} {cs : List AV} (hg : vs.get a.block = some (.own r)) (hp : P a.block) (he : ep a = r.ep) (hl : cs.length = r.cs.length) (h : Ses X P N vs r.cs cs) : Se X P N vs (.ptr a) (.fptr cs a.off) := fun d s x hr q => by
  cases q with | ptr _ k hk =>
  obtain ⟨k1, o, h1, h2, h3⟩ := hr.live _ _ hg
  rw [hk] at h1; cases h1
  cases h3 with | own _ r' q =>
  refine .fptr cs a.off 0 ⟨k, a.off, a.spot⟩ (.own r') r'.cs (fz_new hr hp hk h2) (by simp) ?_ (h d s _ hr q.cs)
  show (if ep a = r'.ep ∧ 0 + cs.length ≤ r'.cs.length then _ else _) = _
  rw [if_pos ⟨by rw [q.ep]; exact he, by rw [hl, ← q.cs.length]; omega⟩]
  rw [hl, q.cs.length]; simp
def KeepA (vs vs' : VS) : Prop := vs.size ≤ vs'.size ∧ ∀ b, b < vs.size → vs'.get b = vs.get b ∧ vs'.ver b = vs.ver b
theorem KeepA.refl (vs : VS) : KeepA vs vs := ⟨Nat.le_refl _, fun _ _ => ⟨rfl, rfl⟩⟩
theorem KeepA.trans {a b c : VS} (h : KeepA a b) (k : KeepA b c) : KeepA a c := ⟨Nat.le_trans h.1 k.1, fun x hx => by
  have h1 := h.2 x hx
  have h2 := k.2 x (Nat.lt_of_lt_of_le hx h.1)
  exact ⟨h2.1.trans h1.1, h2.2.trans h1.2⟩⟩
theorem KeepA.push {a b : VS} (h : KeepA a b) (o : VO) : KeepA a (b.push o) := ⟨by have := h.1; simp only [VS.push]; omega, fun x hx => by
  have := h.1
  rw [VS.get_push, if_neg (by omega)]
  exact h.2 x hx⟩
theorem KeepA.set {a b : VS} (h : KeepA a b) {x : Nat} (hx : a.size ≤ x) (o : VO) : KeepA a (b.set x o) := ⟨by have := h.1; simpa only [VS.set] using this, fun y hy => by
  have := h.2 y hy
  have hne : y ≠ x := by omega
  simp only [VS.get, VS.set, if_neg hne] at this ⊢
  exact this⟩
structure Cut (X : Prg) (n : Nat) (vs vs' vs1 : VS) : Prop where
  lo : vs.size ≤ n
  hi : n ≤ vs'.size
  sz : vs1.size = n
  ver : ∀ b, b < n → vs1.ver b = vs'.ver b
  row : ∀ b o1, b < n → vs1.get b = some o1 → (b < vs.size ∧ vs'.get b = some o1 ∧ vs'.ver b = vs.ver b ∧ vs.get b = some o1) ∨
    ∃ o, vs'.get b = some o ∧ ∀ d s o', Rel X d vs' s → OR d o o' → OR (fz (n ≤ ·) (· < n) d s) o1 o'
theorem Cut.keep {vs vs' : VS} (h : KeepA vs vs') : Cut X vs.size vs vs' vs where
  lo := Nat.le_refl _
  hi := h.1
  sz := rfl
  ver b hb := (h.2 b hb).2.symm
  row b o1 hb ho := .inl ⟨hb, by rw [(h.2 b hb).1]; exact ho, (h.2 b hb).2, ho⟩
theorem Cut.sound {n : Nat} {vs vs' vs1 : VS} {d d' : Wd} {s s' : St} (hc : Cut X n vs vs' vs1) (hr : Rel X d vs s) (hr' : Rel X d' vs' s') (he : Evo d d' vs vs' s s') :
    Rel X (fz (n ≤ ·) (· < n) d' s') vs1 s' ∧ Evo d (fz (n ≤ ·) (· < n) d' s') vs vs1 s s' := by
  have hlo := hc.lo
  have hle : d.le (fz (n ≤ ·) (· < n) d' s') := ⟨fun b k hb => by
    have := (hr.lt b k hb).1
    rw [fz_phiN (N := (· < n)) (by show b < n; omega)]; exact he.le.phi b k hb, fun k o hk => fz_old (he.le.frz k o hk)⟩
  refine ⟨⟨fun b o1 hb => ?_, fun b b' k hb hb' => hr'.inj b b' k (fz_phi hb) (fz_phi hb'), fun b k hb => ?_, fun b o k hb hk => ?_, fun k o hk => fz_frz hr' hk, fun p hp => ⟨fz_old (hr'.glob p hp).1, (hr'.glob p hp).2⟩, fun b k hb => hr'.has b k (fz_phi hb)⟩,
    ⟨hle, fun b hb => ?_, by rw [hc.sz]; exact hlo, he.ssz, fun b hb => ?_, fun b k hb hk e => ?_⟩⟩
  · have hbn : b < n := by rw [← hc.sz]; exact VS.lt_of_get hb
    rcases hc.row b o1 hbn hb with ⟨h1, h2, h3, h4⟩ | ⟨o, h1, h2⟩
    · obtain ⟨k, o', q1, q2, q3⟩ := hr.live b o1 h4
      exact ⟨k, o', hle.phi b k q1, by rw [he.ver b k h1 q1 h3]; exact q2, q3.mono hle⟩
    · obtain ⟨k, o', q1, q2, q3⟩ := hr'.live b o h1
      exact ⟨k, o', by rw [fz_phiN (N := (· < n)) hbn]; exact q1, q2, h2 d' s' o' hr' q3⟩
  · have h1 := hr'.lt b k (fz_phi hb)
    refine ⟨?_, h1.2⟩
    rw [hc.sz]
    unfold fz at hb
    simp only at hb
    split at hb
    · assumption
    · cases hb
  · have hbn : b < n := by rw [← hc.sz]; exact VS.lt_of_get hb
    have hk' := fz_phi hk
    have hlive : ∃ o, vs'.get b = some o := by
      rcases hc.row b o hbn hb with ⟨h1, h2, h3, h4⟩ | ⟨o2, h1, h2⟩
      · exact ⟨_, h2⟩
      · exact ⟨_, h1⟩
    obtain ⟨o2, hl⟩ := hlive
    have hm := hr'.sep b o2 k hl hk'
    unfold fz
    simp only [hm]
    rw [if_neg]
    rintro ⟨b', h1, h2⟩
    have := hr'.inj b b' k hk' h2
    omega
  · rw [fz_phiN (N := (· < n)) (by show b < n; omega)]; exact he.phi b hb
  · rw [hc.ver b (by omega)]; exact he.verm b hb
  · exact he.ver b k hb hk (by rw [← hc.ver b (by omega)]; exact e)
theorem VC_cut {f : Nat} {args : List AV} {Q : AV → VS → Prop} (h : VC X f args vs fun v vs' => ∃ n v1 vs1, Cut X n vs vs' vs1 ∧ Se X (n ≤ ·) (· < n) vs' v v1 ∧ Q v1 vs1) : VC X f args vs Q := by
  intro d s args' hr ha
  refine WC_mono (h d s args' hr ha) ?_
  rintro r s' ⟨v, vs', d', ⟨n, v1, vs1, h1, h2, h3⟩, q2, q3, q4⟩
  obtain ⟨g1, g2⟩ := h1.sound hr q3 q4
  exact ⟨v1, vs1, _, h3, h2 d' s' r q3 q2, g1, g2⟩
def PC (X : Prg) (f : Nat) (args : List AV) (r : AV) : Prop := ∀ vs, VC X f args vs fun v vs' => v = r ∧ vs' = vs
def outP (X : Prg) (vs : VS) (r : AV) (v : AV) (vs' : VS) : Prop := KeepA vs vs' ∧ Se X (vs.size ≤ ·) (· < vs.size) vs' v r
theorem PC_of {f : Nat} {args : List AV} {r : AV} (h : ∀ vs, VC X f args vs (outP X vs r)) : PC X f args r := fun vs =>
  VC_cut (VC_mono (h vs) fun v vs' ⟨h1, h2⟩ => ⟨vs.size, r, vs, Cut.keep h1, h2, rfl, rfl⟩)
theorem VC_pure {f : Nat} {args : List AV} {r : AV} {K : AV → VS → Prop} (h : PC X f args r) (hK : K r vs) : VC X f args vs K := VC_mono (h vs) fun v vs' ⟨h1, h2⟩ => by rw [h1, h2]; exact hK
def All (b : Nat) : Prop := True
def Non (b : Nat) : Prop := False
def emptyVS : VS := ⟨0, fun _ => none, fun _ => 0⟩
theorem VC_lent {f : Nat} {args args1 : List AV} {r : AV} {K : AV → VS → Prop} (h : PC X f args1 r) (ha : Ses X All Non vs args args1) (hrg : Rigid r) (hK : K r vs) : VC X f args vs K := by
  intro d s args' hr hargs
  have hr0 : Rel X (fz All Non d s) emptyVS s := by
    have hphi : ∀ b, (fz All Non d s).φ b = none := fun b => by unfold fz; simp only; exact if_neg (fun h => h)
    exact ⟨fun b o hb => (by simp [emptyVS, VS.get] at hb), fun b b' k hb => (by rw [hphi] at hb; cases hb), fun b k hb => (by rw [hphi] at hb; cases hb), fun b o k hb => (by simp [emptyVS, VS.get] at hb),
      fun k o hk => fz_frz hr hk, fun p hp => ⟨fz_old (hr.glob p hp).1, (hr.glob p hp).2⟩, fun b k hb => (by rw [hphi] at hb; cases hb)⟩
  refine WC_mono (h emptyVS _ s args' hr0 (ha d s args' hr hargs)) ?_
  rintro x s' ⟨v, vs', d', ⟨rfl, rfl⟩, q2, q3, q4⟩
  have hkeep : ∀ b k, d.φ b = some k → s'.get k = s.get k := fun b k hb => by
    obtain ⟨o, ho⟩ := hr.has b k hb
    rw [ho]
    exact q3.frz _ _ (q4.le.frz _ _ (fz_new hr trivial hb ho))
  refine ⟨v, vs, d, hK, hrg _ d x q2, ⟨fun b o hb => ?_, hr.inj, fun b k hb => ⟨(hr.lt b k hb).1, Nat.lt_of_lt_of_le (hr.lt b k hb).2 q4.ssz⟩, hr.sep, fun k o hk => q3.frz _ _ (q4.le.frz _ _ (fz_old hk)), hr.glob, fun b k hb => by rw [hkeep b k hb]; exact hr.has b k hb⟩,
    ⟨.refl d, fun _ _ => rfl, Nat.le_refl _, q4.ssz, fun _ _ => Nat.le_refl _, fun b k _ hb _ => hkeep b k hb⟩⟩
  obtain ⟨k, o', h1, h2, h3⟩ := hr.live b o hb
  exact ⟨k, o', h1, by rw [hkeep b k h1]; exact h2, h3⟩
open Classical in
noncomputable def VS.drop (vs : VS) (P : Nat → Prop) : VS := ⟨vs.size, fun b => if P b then none else vs.tr b, vs.ver⟩
open Classical in
theorem VS.get_drop {b : Nat} : (vs.drop P).get b = if P b then none else vs.get b := by
  unfold VS.get VS.drop
  simp only
  split <;> split <;> rfl
theorem Rel.drop (hr : Rel X d vs s) : Rel X (fz P All d s) (vs.drop P) s ∧ Evo d (fz P All d s) vs (vs.drop P) s s := by
  have hphi : ∀ b, (fz P All d s).φ b = d.φ b := fun b => fz_phiN trivial
  have hle : d.le (fz P All d s) := ⟨fun b k hb => by rw [hphi]; exact hb, fun k o hk => fz_old hk⟩
  refine ⟨⟨fun b o hb => ?_, fun b b' k hb hb' => hr.inj b b' k (fz_phi hb) (fz_phi hb'), fun b k hb => hr.lt b k (fz_phi hb), fun b o k hb hk => ?_, fun k o hk => fz_frz hr hk, fun p hp => ⟨fz_old (hr.glob p hp).1, (hr.glob p hp).2⟩, fun b k hb => hr.has b k (fz_phi hb)⟩,
    ⟨hle, fun b _ => hphi b, Nat.le_refl _, Nat.le_refl _, fun _ _ => Nat.le_refl _, fun _ _ _ _ _ => rfl⟩⟩
  · rw [VS.get_drop] at hb
    split at hb
    · cases hb
    · obtain ⟨k, o', h1, h2, h3⟩ := hr.live b o hb
      exact ⟨k, o', by rw [hphi]; exact h1, h2, h3.mono hle⟩
  · rw [VS.get_drop] at hb
    split at hb
    · cases hb
    · rename_i hp
      have hk' := fz_phi hk
      have hm := hr.sep b o k hb hk'
      unfold fz
      simp only [hm]
      rw [if_neg]
      rintro ⟨b', h1, h2⟩
      have := hr.inj b b' k hk' h2
      subst this
      exact hp h1
theorem VC_freeze {f : Nat} {args args1 : List AV} {K : AV → VS → Prop} (P : Nat → Prop) (ha : Ses X P All vs args args1) (h : VC X f args1 (vs.drop P) K) : VC X f args vs K := by
  intro d s args' hr hargs
  obtain ⟨g1, g2⟩ := hr.drop (P := P)
  refine WC_mono (h _ s args' g1 (ha d s args' hr hargs)) ?_
  rintro x s' ⟨v, vs', d', q1, q2, q3, q4⟩
  exact ⟨v, vs', d', q1, q2, q3, g2.trans q4⟩
end Go.Proofs.Yticllcglldbffaa.Ab
end
