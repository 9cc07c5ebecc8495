/- What awake() answers, strings.Repeat of "0", strings.Index at one byte (seat of EscTexts, EscPlain). -/
import Derived.Test.YticllcglldbffaaRows
import Derived.Test.YticllcglldbffaaC4
import Derived.Test.YticllcglldbffaaW
import Derived.Test.YticllcglldbffaaD3
import Derived.Test.YticllcglldbffaaKX
import Derived.LaidMore
import Derived.Stop.Joined
namespace Go.Proofs.Yticllcglldbffaa.Ab
open Go.Proofs Go.ChangeShapes Go.WideShapes Go.ChangeAt Go.RowKit Go.Deep
set_option maxRecDepth 100000
set_option linter.unusedVariables false
@[reducible] def signD : TD := .more (.int .i64) (.one (.int .i64))
@[reducible] def twoD : TD := .more (.int .i64) (.more (.int .i64) (.one (.int .i64)))
@[reducible] def lineD : TD := .more (.slice signD) (.one (.int .i64))
theorem laidO : laidOnce laid = true := by kernel_rfl
theorem open_none (f : Nat) : Open (fun _ _ => none) f := fun _ _ => rfl
theorem open_knL (l : List Nat) (f : Nat) : Open (knL l) f := fun v r => by simp [knL]
theorem laidPl {k : Nat → List Value → Option Value} : (XK k).laid.all (fun p => p.2.all plainV) = true := by
  rw [List.all_eq_true]
  intro p hp
  rw [List.all_eq_true]
  exact laidWell_plain laidW p hp
def idxK : List Value → Option Value
  | [.string s, .string b] => match b.data.toList with
    | [c] => some (.int .i64 (Lib.indexByte s.data.toList c))
    | _ => none
  | _ => none
theorem knows_idx {args : List Value} {v : Value} (hk : idxK args = some v) : (∃ fn, Try.prog.funcs[51]? = some fn ∧ fn.body.isSome = true ∧ (fn.name == "runtime.NumGoroutine") = false) ∧ ∀ w, LaidIn laid w → Calls Try.prog 51 args.toArray w fun e w' => e = .returned v ∧ Grow w w' := by
  refine ⟨⟨_, Try.func51, by kernel_rfl, by kernel_rfl⟩, fun w _ => ?_⟩
  unfold idxK at hk
  split at hk
  · rename_i s b
    split at hk
    · rename_i c hb
      cases hk
      have hbe : b = ⟨#[c]⟩ := by
        cases b
        rename_i d
        cases d
        simp at hb
        rw [hb]
      subst hbe
      refine (index_one s c w).mono ?_
      rintro e w' ⟨rfl, rfl⟩
      exact ⟨rfl, rfl, rfl, rfl, Nat.le_refl _, fun _ _ => rfl⟩
    · cases hk
  · cases hk
def kI (f : Nat) (args : List Value) : Option Value := if f = 51 then idxK args else none
theorem knows_kI : Knows Try.prog laid kI := by
  intro f args v hk hp
  unfold kI at hk
  split at hk
  · rename_i hf
    subst hf
    exact knows_idx hk
  · cases hk
theorem aw22 : awk gsize (XK kI) 6 = true := by kernel_rfl
def awq : List Nat := [6]
theorem knows_aw : Knows Try.prog laid (knL awq) := knows_more (X0 := X0) (soundK knows_kI) laidW fun f hf => by
  simp only [awq, List.mem_cons, List.not_mem_nil, or_false] at hf
  subst hf
  exact aw22
/-- What strings.Repeat of "0" answers, to sixteen. -/
def repK (args : List Value) : Option Value := match args with
  | [.string b, .int .i64 n] => if b.data.toList = [48] ∧ 0 ≤ n ∧ n ≤ 16 then some (.string ⟨(List.replicate n.toNat 48).toArray⟩) else none
  | _ => none
noncomputable def repB (n : Nat) : Bool := match acall (XK fun _ _ => none) 100000 32 [.string ⟨#[48]⟩, .int .i64 n] (startS gsize (XK fun _ _ => none)) with
  | some (.string b, _) => b.data.toList == List.replicate n 48
  | _ => false
theorem rep_all : ([0, 1, 2, 3, 4, 5, 6, 7, 8, 9, 10, 11, 12, 13, 14, 15, 16].all repB) = true := by kernel_rfl
def knRl (l : List Nat) (f : Nat) (args : List Value) : Option Value := if f = 32 then repK args else knL l f args
theorem rep_at {n : Nat} (h : n ≤ 16) : repB n = true := by
  refine List.all_eq_true.1 rep_all n ?_
  have : ∀ m : Fin 17, m.1 ∈ [0, 1, 2, 3, 4, 5, 6, 7, 8, 9, 10, 11, 12, 13, 14, 15, 16] := by decide
  exact this ⟨n, by omega⟩
theorem knows_knRl {l : List Nat} (hl : Knows Try.prog laid (knL l)) : Knows Try.prog laid (knRl l) := by
  intro f args v hk hp
  unfold knRl at hk
  split at hk
  · rename_i hf
    subst hf
    unfold repK at hk
    split at hk
    · rename_i b n
      split at hk
      · rename_i hc
        cases hk
        obtain ⟨m, rfl⟩ := Int.eq_ofNat_of_zero_le hc.2.1
        have hb : b = ⟨#[48]⟩ := by
          cases b
          rename_i d
          cases d
          simp at hc
          rw [hc.1]
        subst hb
        refine known_of_WC (soundK (k := fun _ _ => none) (fun _ _ _ h => by cases h)) (G := gsize) laidW (by kernel_rfl) hp rfl ?_
        have h1 := rep_at (n := m) (by omega)
        unfold repB at h1
        split at h1
        · rename_i b s' h2
          refine ⟨_, _, _, h2, ?_⟩
          have h3 : b.data.toList = List.replicate m 48 := by simpa using h1
          show Value.string b = Value.string ⟨(List.replicate m 48).toArray⟩
          rw [← h3]
        · cases h1
      · cases hk
    · cases hk
  · exact hl f args v hk hp
theorem open_knRl (l : List Nat) : ∀ f, f ≠ 32 → Open (knRl l) f := fun f hf v r => by
  unfold knRl
  rw [if_neg hf]
  exact open_knL l f v r
theorem knRl_rep (l : List Nat) {d : Nat} (hd : d ≤ 16) : knRl l 32 [.string ⟨#[48]⟩, .int .i64 d] = some (.string ⟨(List.replicate d 48).toArray⟩) := by
  unfold knRl repK
  rw [if_pos rfl]
  simp
  omega
theorem hrep_knRl (l : List Nat) : ∀ d : Nat, d ≤ 16 → PC (XK (knRl l)) 32 [tx [48], .c (.int .i64 d)] (tx (List.replicate d 48)) := fun d hd _ =>
  VC_known (ws := [.string ⟨#[48]⟩, .int .i64 d]) (v := .string ⟨(List.replicate d 48).toArray⟩) (knRl_rep l hd) rfl rfl ⟨rfl, rfl⟩
def knP (l : List Nat) (f : Nat) (args : List Value) : Option Value := if f = 51 then idxK args else knRl l f args
theorem knows_knP {l : List Nat} (hl : Knows Try.prog laid (knL l)) : Knows Try.prog laid (knP l) := by
  intro f args v hk hp
  unfold knP at hk
  split at hk
  · rename_i hf
    subst hf
    exact knows_idx hk
  · exact knows_knRl hl f args v hk hp
theorem open_knP (l : List Nat) : ∀ f, f ≠ 32 → f ≠ 51 → Open (knP l) f := fun f h1 h2 v r => by
  unfold knP
  rw [if_neg h2]
  exact open_knRl l f h1 v r
theorem knP_at (l : List Nat) (s : List UInt8) (c : UInt8) : knP l 51 [.string ⟨s.toArray⟩, .string ⟨#[c]⟩] = some (.int .i64 (Lib.indexByte s c)) := by
  unfold knP
  rw [if_pos rfl]
  rfl
theorem hix_knP (l : List Nat) : ∀ (s : List UInt8) (c : UInt8), PC (XK (knP l)) 51 [tx s, tx [c]] (.c (.int .i64 (Lib.indexByte s c))) := fun s c _ =>
  VC_known (ws := [.string ⟨s.toArray⟩, .string ⟨#[c]⟩]) (v := .int .i64 (Lib.indexByte s c)) (knP_at l s c) rfl rfl ⟨rfl, rfl⟩
theorem knP_rep (l : List Nat) {d : Nat} (hd : d ≤ 16) : knP l 32 [.string ⟨#[48]⟩, .int .i64 d] = some (.string ⟨(List.replicate d 48).toArray⟩) := by
  unfold knP
  rw [if_neg (by decide)]
  exact knRl_rep l hd
theorem hrep_knP (l : List Nat) : ∀ d : Nat, d ≤ 16 → PC (XK (knP l)) 32 [tx [48], .c (.int .i64 d)] (tx (List.replicate d 48)) := fun d hd _ =>
  VC_known (ws := [.string ⟨#[48]⟩, .int .i64 d]) (v := .string ⟨(List.replicate d 48).toArray⟩) (knP_rep l hd) rfl rfl ⟨rfl, rfl⟩
theorem soundQ : SoundF (XK (knP awq)) Try.prog := soundK (knows_knP knows_aw)
end Go.Proofs.Yticllcglldbffaa.Ab
