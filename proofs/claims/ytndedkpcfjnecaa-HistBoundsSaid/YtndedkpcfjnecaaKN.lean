/- What awake() answers, and strings.Repeat of "0" (seat of NumDecs, NumHexes). -/
import Derived.Test.YtndedkpcfjnecaaRows
import Derived.Test.YtndedkpcfjnecaaC4
import Derived.Test.YtndedkpcfjnecaaW
import Derived.Test.YtndedkpcfjnecaaD3
namespace Go.Proofs.Ytndedkpcfjnecaa.Ab
open Go.Proofs
set_option maxRecDepth 100000
set_option linter.unusedVariables false
@[reducible] def signD : TD := .more (.int .i64) (.one (.int .i64))
@[reducible] def twoD : TD := .more (.int .i64) (.more (.int .i64) (.one (.int .i64)))
@[reducible] def lineD : TD := .more (.slice signD) (.one (.int .i64))
theorem laidO : laidOnce laid = true := by kernel_rfl
theorem open_none (f : Nat) : Open (fun _ _ => none) f := fun _ _ => rfl
theorem open_knL (l : List Nat) (f : Nat) : Open (knL l) f := fun v r => by simp [knL]
theorem laidPl {k : Nat → List Value → Option Value} : (XK k).laid.all (fun p => p.2.all plainV) = true := by
  rw [List.all_eq_true]
  intro p hp
  rw [List.all_eq_true]
  exact laidWell_plain laidW p hp
theorem aw01 : awk gsize (XK fun _ _ => none) 26 = true := by kernel_rfl
def awl : List Nat := [26]
theorem knows_aw : Knows Try.prog laid (knL awl) := knows_more (X0 := X0) (soundK (k := fun _ _ => none) (fun _ _ _ h => by cases h)) laidW fun f hf => by
  simp only [awl, List.mem_cons, List.not_mem_nil, or_false] at hf
  subst hf
  exact aw01
/-- What strings.Repeat of "0" answers, to sixteen. -/
def repK (args : List Value) : Option Value := match args with
  | [.string b, .int .i64 n] => if b.data.toList = [48] ∧ 0 ≤ n ∧ n ≤ 16 then some (.string ⟨(List.replicate n.toNat 48).toArray⟩) else none
  | _ => none
noncomputable def repB (n : Nat) : Bool := match acall (XK fun _ _ => none) 100000 69 [.string ⟨#[48]⟩, .int .i64 n] (startS gsize (XK fun _ _ => none)) with
  | some (.string b, _) => b.data.toList == List.replicate n 48
  | _ => false
theorem rep_all : ([0, 1, 2, 3, 4, 5, 6, 7, 8, 9, 10, 11, 12, 13, 14, 15, 16].all repB) = true := by kernel_rfl
def knRl (l : List Nat) (f : Nat) (args : List Value) : Option Value := if f = 69 then repK args else knL l f args
theorem rep_at {n : Nat} (h : n ≤ 16) : repB n = true := by
  refine List.all_eq_true.1 rep_all n ?_
  have : ∀ m : Fin 17, m.1 ∈ [0, 1, 2, 3, 4, 5, 6, 7, 8, 9, 10, 11, 12, 13, 14, 15, 16] := by decide
  exact this ⟨n, by omega⟩
theorem knows_knRl {l : List Nat} (hl : Knows Try.prog laid (knL l)) : Knows Try.prog laid (knRl l) := by
  intro f args v hk hp
  unfold knRl at hk
  split at hk
  · rename_i hf
    subst hf
    unfold repK at hk
    split at hk
    · rename_i b n
      split at hk
      · rename_i hc
        cases hk
        obtain ⟨m, rfl⟩ := Int.eq_ofNat_of_zero_le hc.2.1
        have hb : b = ⟨#[48]⟩ := by
          cases b
          rename_i d
          cases d
          simp at hc
          rw [hc.1]
        subst hb
        refine known_of_WC (soundK (k := fun _ _ => none) (fun _ _ _ h => by cases h)) (G := gsize) laidW (by kernel_rfl) hp rfl ?_
        have h1 := rep_at (n := m) (by omega)
        unfold repB at h1
        split at h1
        · rename_i b s' h2
          refine ⟨_, _, _, h2, ?_⟩
          have h3 : b.data.toList = List.replicate m 48 := by simpa using h1
          show Value.string b = Value.string ⟨(List.replicate m 48).toArray⟩
          rw [← h3]
        · cases h1
      · cases hk
    · cases hk
  · exact hl f args v hk hp
theorem open_knRl (l : List Nat) : ∀ f, f ≠ 69 → Open (knRl l) f := fun f hf v r => by
  unfold knRl
  rw [if_neg hf]
  exact open_knL l f v r
theorem knRl_rep (l : List Nat) {d : Nat} (hd : d ≤ 16) : knRl l 69 [.string ⟨#[48]⟩, .int .i64 d] = some (.string ⟨(List.replicate d 48).toArray⟩) := by
  unfold knRl repK
  rw [if_pos rfl]
  simp
  omega
theorem hrep_knRl (l : List Nat) : ∀ d : Nat, d ≤ 16 → PC (XK (knRl l)) 69 [tx [48], .c (.int .i64 d)] (tx (List.replicate d 48)) := fun d hd _ =>
  VC_known (ws := [.string ⟨#[48]⟩, .int .i64 d]) (v := .string ⟨(List.replicate d 48).toArray⟩) (knRl_rep l hd) rfl rfl ⟨rfl, rfl⟩
@[reducible] def knR : Nat → List Value → Option Value := knRl awl
theorem open_knR : ∀ f, f ≠ 69 → Open knR f := open_knRl awl
theorem hrep_knR : ∀ d : Nat, d ≤ 16 → PC (XK knR) 69 [tx [48], .c (.int .i64 d)] (tx (List.replicate d 48)) := hrep_knRl awl
theorem sound : SoundF (XK knR) Try.prog := soundK (knows_knRl knows_aw)
theorem rng64 {n : Int} (h : (Lit.int .i64 n).wf = true) : -9223372036854775808 ≤ n ∧ n < 9223372036854775808 := by
  simp only [Lit.wf, Bool.and_eq_true, decide_eq_true_eq] at h
  have e1 : IntKind.i64.min = -9223372036854775808 := by decide
  have e2 : IntKind.i64.max = 9223372036854775807 := by decide
  omega
end Go.Proofs.Ytndedkpcfjnecaa.Ab
