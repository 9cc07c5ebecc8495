/- Texts as values and back: plain Lean. -/
import Derived.Test.YtpckldhojfjdmaaDoorG2
import Derived.Test.YtpckldhojfjdmaaDoorN3
namespace Go.Proofs.YtpckldhojfjdmaaDoor.Ab
open Go.Proofs
set_option linter.unusedVariables false
set_option linter.unusedSimpArgs false
set_option linter.unusedSectionVars false
def codeP (v : Int) : Prop := 0 ≤ v ∧ v ≤ 1114111 ∧ (v < 55296 ∨ 57343 < v)
theorem codeP_right {v : Int} (h : codeP v) : right v = true := by
  unfold codeP at h
  unfold right
  simp
  omega
theorem encR_code {v : Int} (h : codeP v) : encR v = encV v := by unfold encR; rw [if_pos (codeP_right h)]
theorem encV_ne (v : Int) : encV v ≠ [] := by unfold encV; (repeat' split) <;> simp
theorem encR_stray (a : UInt8) (h : 128 ≤ a.toNat) : encR (1114112 + (a.toNat : Int)) = [a] := by
  have hl := a.toNat_lt
  have hr : right (1114112 + (a.toNat : Int)) = true := by unfold right; simp; omega
  unfold encR encV
  rw [if_pos hr, if_neg (by omega), if_neg (by omega), if_neg (by omega), if_neg (by omega)]
  rw [show (1114112 + (a.toNat : Int)).toNat - 1114112 = a.toNat by omega, UInt8.ofNat_toNat]
theorem decL_enc {v : Int} (h : codeP v) (r : List UInt8) : decL (encV v ++ r) = v :: decL r := by
  rw [decL_cons (by simp [encV_ne]), oneL_enc h.1 h.2.1 h.2.2]
  simp
theorem decL_encs : ∀ (d : List Int) (r : List UInt8), (∀ v ∈ d, codeP v) → decL (d.flatMap encV ++ r) = d ++ decL r
  | [], r, _ => rfl
  | v :: d, r, h => by
    rw [List.flatMap_cons, List.append_assoc, decL_enc (h v (by simp)), decL_encs d r fun u hu => h u (by simp [hu])]
    rfl
theorem decL_encs0 (d : List Int) (h : ∀ v ∈ d, codeP v) : decL (d.flatMap encV) = d := by
  have := decL_encs d [] h
  rwa [List.append_nil, decL_nil, List.append_nil] at this
theorem decL_right : ∀ s, ∀ v ∈ decL s, right v = true := by
  refine decL_ind (by rw [decL_nil]; simp) fun s h ih => ?_
  rw [decL_cons h]
  intro v hv
  rcases List.mem_cons.1 hv with rfl | hv
  · rcases oneL_cases s h with ⟨v, r, h0, h1, h2, hs, ho⟩ | ⟨a, r, hs, ha, hc, ho⟩
    · rw [ho]; exact codeP_right ⟨h0, h1, h2⟩
    · rw [ho]
      have hl := a.toNat_lt
      unfold right; simp; omega
  · exact ih v hv
theorem encV_head {v : Int} (h : codeP v) : ∃ c l, encV v = c :: l ∧ contB c = false := by
  unfold codeP at h
  unfold encV contB
  (repeat' split)
  · exact ⟨_, _, rfl, by rw [ofNat_val (by omega)]; simp; omega⟩
  · exact ⟨_, _, rfl, by rw [ofNat_val (by omega)]; simp; omega⟩
  · exact ⟨_, _, rfl, by rw [ofNat_val (by omega)]; simp; omega⟩
  · exact ⟨_, _, rfl, by rw [ofNat_val (by omega)]; simp; omega⟩
  · omega
theorem cntB_tw (a : UInt8) : ∀ (l : List UInt8) (i : Nat), cntB a i l = cntB a i (l.takeWhile contB)
  | [], i => rfl
  | c :: l, i => by
    cases hc : contB c with
    | true => rw [List.takeWhile_cons_of_pos hc, cntB, cntB, cntB_tw a l (i + 1)]
    | false =>
      rw [List.takeWhile_cons_of_neg (by simp [hc]), cntB, cntB]
      have : mayB a c i = false := by unfold mayB; rw [hc]; rfl
      rw [this]
      simp
/-- The text of a text's values, changed. -/
def imgL (h : Int → Int) (s : List UInt8) : List UInt8 := (decL s).flatMap fun v => encR (h v)
theorem imgL_cons {h : Int → Int} {s : List UInt8} (hs : s ≠ []) : imgL h s = encR (h (oneL s).1) ++ imgL h (s.drop (oneL s).2) := by
  unfold imgL
  rw [decL_cons hs, List.flatMap_cons]
section
variable {h : Int → Int} (h1 : ∀ v, codeP v → codeP (h v)) (h2 : ∀ v, 1114112 ≤ v → h v = v)
include h1 h2
theorem imgL_tw : ∀ s, (imgL h s).takeWhile contB = s.takeWhile contB := by
  refine decL_ind (by unfold imgL; rw [decL_nil]; rfl) fun s hs ih => ?_
  rw [imgL_cons hs]
  rcases oneL_cases s hs with ⟨v, r, q0, q1, q2, q3, ho⟩ | ⟨a, r, q3, ha, hc, ho⟩
  · rw [ho]
    have hv := h1 v ⟨q0, q1, q2⟩
    obtain ⟨c, l, e1, e2⟩ := encV_head hv
    obtain ⟨c', l', e3, e4⟩ := encV_head (v := v) ⟨q0, q1, q2⟩
    rw [encR_code hv, e1, q3, e3, List.cons_append, List.cons_append, List.takeWhile_cons_of_neg (by simp [e2]), List.takeWhile_cons_of_neg (by simp [e4])]
  · rw [ho] at ih ⊢
    subst q3
    simp only [List.drop_succ_cons, List.drop_zero] at ih
    rw [h2 _ (by simp only; omega), encR_stray a ha]
    simp only [List.cons_append, List.nil_append, List.drop_succ_cons, List.drop_zero, List.takeWhile_cons, ih]
theorem decL_imgL : ∀ s, decL (imgL h s) = (decL s).map h := by
  refine decL_ind (by unfold imgL; rw [decL_nil]; exact decL_nil) fun s hs ih => ?_
  rw [imgL_cons hs, decL_cons hs]
  rcases oneL_cases s hs with ⟨v, r, q0, q1, q2, q3, ho⟩ | ⟨a, r, q3, ha, hc, ho⟩
  · rw [ho] at ih ⊢
    have hv := h1 v ⟨q0, q1, q2⟩
    simp only at ih ⊢
    rw [encR_code hv, decL_enc hv, ih]
    rfl
  · rw [ho] at ih ⊢
    simp only at ih ⊢
    rw [h2 _ (by omega), encR_stray a ha]
    subst q3
    simp only [List.cons_append, List.nil_append, List.drop_succ_cons, List.drop_zero] at ih ⊢
    rw [decL_cons (by simp), oneL_cons, if_neg]
    · simp only [List.drop_succ_cons, List.drop_zero, ih, List.map_cons, h2 (1114112 + (a.toNat : Int)) (by omega)]
    · rw [cntB_tw, imgL_tw h1 h2, ← cntB_tw]
      exact hc
end
/-! ### What is dangerous, and what values look like -/
theorem danger_code {v : Int} (h : right v = true) (hd : dangerV v = false) : codeP v ∧ v ≤ 1114111 := by
  obtain ⟨c1, c2, c3, c4, c5, c6, c7, c8⟩ := cls v
  have h1 := c8.2 h
  simp only [dangerV, decide_eq_false_iff_not] at hd
  have h4 := c4 h1 (by omega)
  have hr := right_rng h
  unfold codeP
  omega
theorem asc_all : ((List.range 95).all fun n => decide (classOf ((n : Int) + 32) ≤ 3)) = true := by kernel_rfl
theorem asc_plain {v : Int} (h1 : 32 ≤ v) (h2 : v ≤ 126) : dangerV v = false := by
  have := of_decide_eq_true (List.all_eq_true.1 asc_all (v - 32).toNat (List.mem_range.2 (by omega)))
  rw [show (((v - 32).toNat : Nat) : Int) + 32 = v by omega] at this
  simp only [dangerV, decide_eq_false_iff_not]
  omega
def skF (v : Int) : Int := skelOf v
theorem skF_code {v : Int} (h : codeP v) : codeP (skF v) := by
  rcases (class_pure v).2.2.2.2 with e | e
  · unfold skF; rw [e]; exact h
  · have hc := cls (skelOf v)
    have hr := hc.2.2.2.2.2.2.2.1 (by omega)
    have := danger_code hr (by simp only [dangerV, decide_eq_false_iff_not]; omega)
    exact this.1
theorem refO_small {v b : Int} (h : refO v = some b) : v ∈ SL := (skelO_mem h).1
theorem sl_max : (SL.all fun a => decide (a ≤ 1114111)) = true := by kernel_rfl
theorem skF_big {v : Int} (h : 1114112 ≤ v) : skF v = v := by
  unfold skF
  rw [(class_pure v).2.2.1]
  have := refSkel_ne v
  cases hq : refO v with
  | none =>
    rw [hq] at this
    simp only [Option.isSome_none, Bool.false_eq_true, eq_iff_iff, iff_false, ne_eq, Decidable.not_not] at this
    exact this
  | some b =>
    have := of_decide_eq_true (List.all_eq_true.1 sl_max v (refO_small hq))
    omega
theorem skF_idem (v : Int) : skF (skF v) = skF v := (class_pure v).2.2.2.1
/-- What is not dangerous; all, told; what it looks like. -/
def gStrip (v : Int) : List UInt8 := if dangerV v then [] else encR v
def stripL (s : List UInt8) : List UInt8 := (decL s).flatMap gStrip
def tellL (s : List UInt8) : List UInt8 := (decL s).flatMap textV
def foldL (s : List UInt8) : List UInt8 := imgL skF s
def tvV (v : Int) : List Int := if dangerV v then (textV v).map fun c => (c.toNat : Int) else [v]
theorem encV_byte {c : UInt8} (h : c.toNat < 128) : encV (c.toNat : Int) = [c] := by
  unfold encV
  rw [if_pos (by omega)]
  congr 1
  exact UInt8.ofNat_toNat
theorem danger_asc (v : Int) (h : dangerV v = true) : ∀ c ∈ textV v, 32 ≤ c.toNat ∧ c.toNat ≤ 126 := by
  obtain ⟨c1, c2, c3, c4, c5, c6, c7, c8⟩ := cls v
  simp only [dangerV, decide_eq_true_eq] at h
  intro c hc
  have hx : ∀ n l, c ∈ hexP n l → 32 ≤ c.toNat ∧ c.toNat ≤ 126 := fun n l hm => by
    have := List.all_eq_true.1 (hexP_all n l) c hm
    unfold digB at this
    simp only [Bool.and_eq_true, decide_eq_true_eq] at this
    omega
  unfold textV at hc
  rw [if_neg (by omega), if_neg (by omega)] at hc
  split at hc
  · have := c1 (by omega)
    simp only [List.mem_cons, List.not_mem_nil, or_false] at hc
    rcases hc with rfl | rfl
    · decide
    · rw [ofNat_val (by omega)]; omega
  · split at hc
    · simp only [List.mem_cons, List.not_mem_nil, or_false] at hc
      rcases hc with rfl | rfl <;> decide
    · split at hc
      · simp only [List.mem_append, List.mem_cons, List.not_mem_nil, or_false] at hc
        rcases hc with (rfl | rfl) | hc
        · decide
        · decide
        · exact hx _ _ hc
      · simp only [List.mem_append, List.mem_cons, List.not_mem_nil, or_false] at hc
        rcases hc with ((rfl | rfl | rfl) | hc) | rfl
        · decide
        · decide
        · decide
        · exact hx _ _ hc
        · decide
theorem tvV_text {v : Int} (h : right v = true) : textV v = (tvV v).flatMap encV := by
  unfold tvV
  cases hd : dangerV v with
  | false =>
    obtain ⟨c1, c2, c3, c4, c5, c6, c7, c8⟩ := cls v
    have h1 := c8.2 h
    simp only [dangerV, decide_eq_false_iff_not] at hd
    simp only [Bool.false_eq_true, if_false, List.flatMap_cons, List.flatMap_nil, List.append_nil]
    unfold textV
    rw [if_neg (by omega), if_pos (by omega)]
  | true =>
    have ha := danger_asc v hd
    simp only [if_true]
    generalize textV v = l at ha
    induction l with
    | nil => rfl
    | cons c l ih =>
      have h1 := ha c (by simp)
      rw [List.map_cons, List.flatMap_cons, encV_byte (by omega), ← ih fun d hd => ha d (by simp [hd])]
      rfl
theorem tvV_plain {v : Int} (h : right v = true) : ∀ u ∈ tvV v, dangerV u = false ∧ codeP u := by
  unfold tvV
  cases hd : dangerV v with
  | false =>
    intro u hu
    simp only [Bool.false_eq_true, if_false, List.mem_singleton] at hu
    subst hu
    exact ⟨hd, (danger_code h hd).1⟩
  | true =>
    intro u hu
    simp only [if_true, List.mem_map] at hu
    obtain ⟨c, hc, rfl⟩ := hu
    have h1 := danger_asc v hd c hc
    exact ⟨asc_plain (by omega) (by omega), by unfold codeP; omega⟩
theorem tellL_eq (s : List UInt8) : tellL s = ((decL s).flatMap tvV).flatMap encV := by
  unfold tellL
  have h := decL_right s
  generalize decL s = d at *
  induction d with
  | nil => rfl
  | cons v d ih =>
    rw [List.flatMap_cons, List.flatMap_cons, List.flatMap_append, ← ih fun u hu => h u (by simp [hu]), tvV_text (h v (by simp))]
theorem stripL_eq (s : List UInt8) : stripL s = ((decL s).filter fun v => !dangerV v).flatMap encV := by
  unfold stripL
  have h := decL_right s
  generalize decL s = d at *
  induction d with
  | nil => rfl
  | cons v d ih =>
    rw [List.flatMap_cons, ih fun u hu => h u (by simp [hu]), List.filter_cons]
    unfold gStrip
    cases hd : dangerV v with
    | false =>
      simp only [Bool.false_eq_true, if_false, Bool.not_false, if_true, List.flatMap_cons]
      rw [encR_code (danger_code (h v (by simp)) hd).1]
    | true => simp
theorem decL_strip (s : List UInt8) : decL (stripL s) = (decL s).filter fun v => !dangerV v := by
  rw [stripL_eq]
  refine decL_encs0 _ fun v hv => ?_
  rw [List.mem_filter] at hv
  exact (danger_code (decL_right s v hv.1) (by simpa using hv.2)).1
theorem tv_code (s : List UInt8) : ∀ v ∈ (decL s).flatMap tvV, dangerV v = false ∧ codeP v := fun v hv => by
  obtain ⟨u, hu, hv⟩ := List.mem_flatMap.1 hv
  exact tvV_plain (decL_right s u hu) v hv
theorem decL_tell (s : List UInt8) : decL (tellL s) = (decL s).flatMap tvV := by
  rw [tellL_eq]
  exact decL_encs0 _ fun v hv => (tv_code s v hv).2
theorem decL_both (s : List UInt8) : decL (stripL s ++ tellL s) = ((decL s).filter fun v => !dangerV v) ++ (decL s).flatMap tvV := by
  rw [stripL_eq, decL_encs _ _ fun v hv => ?_, decL_tell]
  rw [List.mem_filter] at hv
  exact (danger_code (decL_right s v hv.1) (by simpa using hv.2)).1
theorem both_plain (s : List UInt8) : ∀ v ∈ decL (stripL s ++ tellL s), dangerV v = false := fun v hv => by
  rw [decL_both] at hv
  rcases List.mem_append.1 hv with hv | hv
  · rw [List.mem_filter] at hv; simpa using hv.2
  · exact (tv_code s v hv).1
theorem strip_plain {s : List UInt8} (h : ∀ v ∈ decL s, dangerV v = false) (h2 : s = (decL s).flatMap encV) : stripL s = s := by
  rw [stripL_eq, List.filter_eq_self.2 fun v hv => by rw [h v hv]; rfl]
  exact h2.symm
theorem strip_strip (s : List UInt8) : stripL (stripL s) = stripL s := by
  refine strip_plain (fun v hv => ?_) ?_
  · rw [decL_strip, List.mem_filter] at hv; simpa using hv.2
  · rw [decL_strip]; exact stripL_eq s
theorem strip_tell (s : List UInt8) : stripL (tellL s) = tellL s := by
  refine strip_plain (fun v hv => ?_) ?_
  · rw [decL_tell] at hv; exact (tv_code s v hv).1
  · rw [decL_tell]; exact tellL_eq s
theorem decL_fold (s : List UInt8) : decL (foldL s) = (decL s).map skF := decL_imgL (fun v h => skF_code h) (fun v h => skF_big h) s
theorem fold_fold (s : List UInt8) : foldL (foldL s) = foldL s := by
  unfold foldL imgL
  have := decL_fold s
  unfold foldL imgL at this
  rw [this]
  clear this
  generalize decL s = d
  induction d with
  | nil => rfl
  | cons v d ih => rw [List.map_cons, List.flatMap_cons, List.flatMap_cons, ih, skF_idem]
theorem fmap_le {g : Int → List UInt8} {c : Nat} (hg : ∀ v, (g v).length ≤ c) (s : List UInt8) : ((decL s).flatMap g).length ≤ c * s.length := by
  have h := decL_len s
  refine Nat.le_trans ?_ (Nat.mul_le_mul_left c h)
  generalize decL s = d
  induction d with
  | nil => simp
  | cons v d ih =>
    have := hg v
    rw [List.flatMap_cons, List.length_append, List.length_cons, Nat.mul_add]
    omega
theorem gStrip_len (v : Int) : (gStrip v).length ≤ 4 := by
  unfold gStrip
  split
  · simp
  · exact encR_len4 v
theorem stripL_len (s : List UInt8) : (stripL s).length ≤ 4 * s.length := fmap_le gStrip_len s
theorem tellL_len (s : List UInt8) : (tellL s).length ≤ 80 * s.length := fmap_le textV_len s
theorem foldL_len (s : List UInt8) : (foldL s).length ≤ 4 * s.length := fmap_le (fun v => encR_len4 (skF v)) s
end Go.Proofs.YtpckldhojfjdmaaDoor.Ab
