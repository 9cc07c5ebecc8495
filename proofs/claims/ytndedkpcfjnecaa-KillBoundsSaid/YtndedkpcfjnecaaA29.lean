/- Maps by whole numbers. -/
import Derived.Test.YtndedkpcfjnecaaA28
set_option linter.unusedSimpArgs false
set_option linter.unusedVariables false
namespace Go.Proofs.Ytndedkpcfjnecaa.Ab

def ki (e : MapEntry) : Int := match e.key with | .int _ j => j | _ => 0
def KeysI (es : List MapEntry) : Prop := ∀ e ∈ es, e.key = .int .i64 (ki e)
def getM : List MapEntry → Int → Option Value
  | [], _ => none
  | e :: es, j => if ki e = j then some e.val else getM es j
theorem keyEq_int (e : MapEntry) (j : Int) (h : e.key = .int .i64 (ki e)) : keyEq (.int .i64) (.int .i64 j) e.key = some (decide (ki e = j)) := by
  rw [h]
  simp only [keyEq, if_true]
  by_cases hj : ki e = j
  · simp [hj]
  · have : ¬ j = ki e := fun h => hj h.symm
    simp [hj, this]
theorem findE_int (j : Int) : ∀ (es : List MapEntry) (n : Nat), KeysI es → (findE (.int .i64) (.int .i64 j) es n = some none ∧ getM es j = none) ∨
    ∃ i v, findE (.int .i64) (.int .i64 j) es n = some (some (n + i, v)) ∧ getM es j = some v ∧ i < es.length ∧ (∀ f : MapEntry → MapEntry, (∀ e, (f e).key = e.key) → KeysI (es.modify i f) ∧ (∀ e, es[i]? = some e → getM (es.modify i f) j = some (f e).val) ∧ ∀ j', j' ≠ j → getM (es.modify i f) j' = getM es j') ∧
      KeysI (es.eraseIdx i) ∧ ∀ j', j' ≠ j → getM (es.eraseIdx i) j' = getM es j'
  | [], n, _ => .inl ⟨rfl, rfl⟩
  | e :: es, n, h => by
    have he := h e List.mem_cons_self
    have hes : KeysI es := fun x hx => h x (List.mem_cons_of_mem _ hx)
    simp only [findE, keyEq_int e j he]
    by_cases hj : ki e = j
    · right
      refine ⟨0, e.val, by simp [hj], by simp [getM, hj], by simp, fun f hf => ?_, by simpa using hes, fun j' hj' => ?_⟩
      · have hkf : ki (f e) = ki e := by unfold ki; rw [hf]
        refine ⟨?_, ?_, ?_⟩
        · intro x hx
          simp at hx
          rcases hx with rfl | hx
          · rw [hkf, hf]; exact he
          · exact hes x hx
        · intro e' he'
          simp at he'
          subst he'
          simp [getM, hkf, hj]
        · intro j' hj'
          have : ¬ ki e = j' := fun h => hj' (by rw [← h, hj])
          simp [getM, hkf, this]
      · have : ¬ ki e = j' := fun h => hj' (by rw [← h, hj])
        simp [getM, this]
    · rcases findE_int j es (n + 1) hes with ⟨h1, h2⟩ | ⟨i, v, h1, h2, h3, h4, h5, h6⟩
      · left; simp [hj, h1, getM, h2]
      · right
        refine ⟨i + 1, v, by simp [hj, h1]; omega, by simp [getM, hj, h2], by simpa using h3, fun f hf => ?_, ?_, fun j' hj' => ?_⟩
        · obtain ⟨g1, g2, g3⟩ := h4 f hf
          refine ⟨?_, ?_, ?_⟩
          · intro x hx
            simp at hx
            rcases hx with rfl | hx
            · exact he
            · exact g1 x hx
          · intro e' he'
            simp at he'
            simp [getM, hj, g2 e' he']
          · intro j' hj'
            simp only [List.modify_succ_cons, getM, g3 j' hj']
        · intro x hx
          simp at hx
          rcases hx with rfl | hx
          · exact he
          · exact h5 x hx
        · simp only [List.eraseIdx_cons_succ, getM, h6 j' hj']
theorem getM_snoc (es : List MapEntry) (e : MapEntry) (j : Int) : getM (es ++ [e]) j = match getM es j with | some v => some v | none => if ki e = j then some e.val else none := by
  induction es with
  | nil => rfl
  | cons x es ih =>
    simp only [List.cons_append, getM]
    split
    · rfl
    · exact ih
section
variable {X : Prg} {t kt et M clk : Nat} {es : List MapEntry} {s : St} {te : Ty}
theorem lookup_int {j : Int} {v : Value} (hu : X.und t = some (.map kt et)) (hk : X.und kt = some (.int .i64)) (he : X.ty et = some te) (hg : s.get M = some (.map es clk)) (hK : KeysI es) (hv : getM es j = some v) : lookupv X t (.map (some M)) (.int .i64 j) false s = some v := by
  simp only [lookupv, hu, hk, he, entries, hg, keyTy, if_true]
  rcases findE_int j es 0 hK with ⟨h1, h2⟩ | ⟨i, v', h1, h2, _⟩
  · rw [h2] at hv; cases hv
  · rw [h1]
    rw [h2] at hv; cases hv
    rfl
theorem update_int {j : Int} (v : Value) (hu : X.und t = some (.map kt et)) (hk : X.und kt = some (.int .i64)) (hg : s.get M = some (.map es clk)) (hK : KeysI es) :
    ∃ es' clk', mapUpdatev X t (.map (some M)) (.int .i64 j) v s = some (s.set M (.map es' clk')) ∧ KeysI es' ∧ getM es' j = some v ∧ ∀ j', j' ≠ j → getM es' j' = getM es j' := by
  simp only [mapUpdatev, hu, hk, hg, keyTy, cstOk0, and_self, if_true]
  rcases findE_int j es 0 hK with ⟨h1, h2⟩ | ⟨i, v', h1, h2, h3, h4, _⟩
  · rw [h1]
    refine ⟨_, _, rfl, ?_, ?_, ?_⟩
    · intro e he
      rcases List.mem_append.1 he with he | he
      · exact hK e he
      · simp at he; subst he; rfl
    · rw [getM_snoc, h2]
      show (if j = j then some v else none) = some v
      simp
    · intro j' hj'
      rw [getM_snoc]
      have : ¬ j = j' := fun h => hj' h.symm
      cases getM es j' with
      | some _ => rfl
      | none => simp [ki, this]
  · rw [h1]
    obtain ⟨g1, g2, g3⟩ := h4 (fun e => { e with val := v }) (fun _ => rfl)
    refine ⟨_, _, rfl, ?_, ?_, ?_⟩
    · rw [Nat.zero_add]; exact g1
    · rw [Nat.zero_add]; exact g2 _ (List.getElem?_eq_getElem h3)
    · rw [Nat.zero_add]; exact g3
theorem delete_int {j : Int} (hu : X.und t = some (.map kt et)) (hk : X.und kt = some (.int .i64)) (hg : s.get M = some (.map es clk)) (hK : KeysI es) :
    ∃ es', deletev X t (.map (some M)) (.int .i64 j) s = some (s.set M (.map es' clk)) ∧ KeysI es' ∧ ∀ j', j' ≠ j → getM es' j' = getM es j' := by
  simp only [deletev, hu, hk, hg, keyTy, if_true]
  rcases findE_int j es 0 hK with ⟨h1, h2⟩ | ⟨i, v', h1, h2, h3, _, h5, h6⟩
  · rw [h1]; exact ⟨es, rfl, hK, fun _ _ => rfl⟩
  · rw [h1]; exact ⟨_, rfl, by rw [Nat.zero_add]; exact h5, by rw [Nat.zero_add]; exact h6⟩
end
end Go.Proofs.Ytndedkpcfjnecaa.Ab
