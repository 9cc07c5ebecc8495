/- What the listed variables hold, as the evaluator lays it (seat of Show*, View*). -/
import Derived.Test.YtpckldhojfjdmaaDoorRows
import Derived.Test.YtpckldhojfjdmaaDoorC4
import Derived.Test.YtpckldhojfjdmaaDoorW
import Derived.LaidMore
import Derived.Stop.Joined
import Derived.Test.YtpckldhojfjdmaaDoorP2
import Derived.Test.YtpckldhojfjdmaaDoorD3
namespace Go.Proofs.YtpckldhojfjdmaaDoor.Ab
open Go.Proofs Go.ChangeShapes Go.WideShapes Go.ChangeAt Go.RowKit Go.Deep
set_option maxRecDepth 100000
set_option linter.unusedVariables false
def laidRows : List (String × DataW Unit) := [("dactyl/class.ranges", Rows.laid_dactyl_class_ranges), ("dactyl/class.looks", Rows.laid_dactyl_class_looks)]
def lay0 : List Value := ((laid.find? (·.1 == 0)).map (·.2)).getD []
def lay1 : List Value := ((laid.find? (·.1 == 1)).map (·.2)).getD []
theorem lay_eq : laid = [(1, lay1), (0, lay0)] := by kernel_rfl
theorem gRanges : Tryd.prog.globalNamed "dactyl/class.ranges" = some 0 := by kernel_rfl
theorem gLooks : Tryd.prog.globalNamed "dactyl/class.looks" = some 1 := by kernel_rfl
theorem tRanges : (Tryd.prog.globals[0]?).map (·.type) = some 107 := by kernel_rfl
theorem tLooks : (Tryd.prog.globals[1]?).map (·.type) = some 108 := by kernel_rfl
theorem uRanges : Tryd.prog.underlying 107 = some (.array 168 21) := by kernel_rfl
theorem uLooks : Tryd.prog.underlying 108 = some (.array 102 21) := by kernel_rfl
theorem u21 : Tryd.prog.underlying 21 = some (.int .i32) := by kernel_rfl
theorem c21 : Tryd.prog.cellsOf 21 = 1 := by kernel_rfl
theorem of_laid {W : World} (h : laidMetH Tryd.prog laidRows W) : LaidIn laid W ∧ 0 < W.heap.size := by
  rw [MakeChecks.laidMetH_plain _ _ _ (by kernel_rfl)] at h
  obtain ⟨ps, ⟨g0, t0, cs0, f0, p0, q0, hg0, ht0, hv0, hd0, ⟨g1, t1, cs1, f1, p1, q1, hg1, ht1, hv1, hd1, _, _⟩, _⟩, _, _⟩ := h
  obtain rfl := Option.some.inj (gRanges.symm.trans hg0)
  obtain rfl := Option.some.inj (gLooks.symm.trans hg1)
  obtain rfl := Option.some.inj (tRanges.symm.trans ht0)
  obtain rfl := Option.some.inj (tLooks.symm.trans ht1)
  have r0 := cells_of_array (l := lay0) gRanges hv0 uRanges u21 c21 hd0 (by kernel_rfl)
  have r1 := cells_of_array (l := lay1) gLooks hv1 uLooks u21 c21 hd1 (by kernel_rfl)
  refine ⟨?_, r0.1 (by decide)⟩
  rw [lay_eq]
  exact laidIn_cons (r1.1 (by decide)) r1.2 (laidIn_cons (r0.1 (by decide)) r0.2 laidIn_nil)
theorem door_met (os : Os) (args : Array Value) : laidMetH Tryd.prog laidRows ((World.doorLaid Tryd.prog 3000 os).forCall (fun _ _ => 0) ⟨#[], args, []⟩).memory :=
  laidMetH_of_parts3 (fuel := 8) (laidMet_of_run' 8 (by kernel_rfl) (by kernel_rfl)) (by kernel_rfl) (by kernel_rfl)
theorem own : ownKnob Tryd.prog.godebug = none := by kernel_rfl
theorem laidOut : laidOutB Tryd.prog = true := by kernel_rfl
end Go.Proofs.YtpckldhojfjdmaaDoor.Ab
/- class.Of is known; what awake() answers. -/
namespace Go.Proofs.YtpckldhojfjdmaaDoor.Ab
open Go.Proofs
set_option maxRecDepth 100000
set_option linter.unusedVariables false
def kOf (f : Nat) (args : List Value) : Option Value := if f = 61 then match args with | [.int .i64 v] => some (.int .i64 (classOf v)) | _ => none else none
@[reducible] def signD : TD := .more (.int .i64) (.one (.int .i64))
@[reducible] def twoD : TD := .more (.int .i64) (.more (.int .i64) (.one (.int .i64)))
@[reducible] def lineD : TD := .more (.slice signD) (.one (.int .i64))
theorem laidO : laidOnce laid = true := by kernel_rfl
theorem open_none (f : Nat) : Open (fun _ _ => none) f := fun _ _ => rfl
theorem open_knL (l : List Nat) (f : Nat) : Open (knL l) f := fun v r => by simp [knL]
theorem laidPl {k : Nat → List Value → Option Value} : (XK k).laid.all (fun p => p.2.all plainV) = true := by
  rw [List.all_eq_true]
  intro p hp
  rw [List.all_eq_true]
  exact laidWell_plain laidW p hp
theorem knows_class : Knows Tryd.prog laid kOf := by
  intro f args v hk hp
  unfold kOf at hk
  split at hk
  · rename_i hf
    subst hf
    split at hk
    · rename_i x
      cases hk
      have hl : LaidS (XK fun _ _ => none) (startS gsize (XK fun _ _ => none)) := LaidS.start laidW laidO
      refine known_of_WC (soundK (k := fun _ _ => none) (fun _ _ _ h => by cases h)) (G := gsize) laidW (by kernel_rfl) hp rfl ?_
      refine WC_mono (classOf_ok (fun f _ => open_none f) x emptyVS (roWd (startS gsize (XK fun _ _ => none))) _ _ (roWd_rel hl laidPl) (.cons _ _ _ _ (.c _ rfl) .nil)) ?_
      rintro r s' ⟨v, vs', d', ⟨rfl, _⟩, hv, _, _⟩
      cases hv
      rfl
    · cases hk
  · cases hk
theorem aw06 : awk gsize (XK kOf) 19 = true := by kernel_rfl
theorem aw07 : awk gsize (XK kOf) 44 = true := by kernel_rfl
def awl : List Nat := [19, 44]
theorem knows_aw : Knows Tryd.prog laid (knL awl) := knows_more (X0 := X0) (soundK knows_class) laidW fun f hf => by
  simp only [awl, List.mem_cons, List.not_mem_nil, or_false] at hf
  rcases hf with rfl | rfl
  · exact aw06
  · exact aw07
/-- What strings.Repeat of "0" answers, to sixteen. -/
def repK (args : List Value) : Option Value := match args with
  | [.string b, .int .i64 n] => if b.data.toList = [48] ∧ 0 ≤ n ∧ n ≤ 16 then some (.string ⟨(List.replicate n.toNat 48).toArray⟩) else none
  | _ => none
noncomputable def repB (n : Nat) : Bool := match acall (XK fun _ _ => none) 100000 95 [.string ⟨#[48]⟩, .int .i64 n] (startS gsize (XK fun _ _ => none)) with
  | some (.string b, _) => b.data.toList == List.replicate n 48
  | _ => false
theorem rep_all : ([0, 1, 2, 3, 4, 5, 6, 7, 8, 9, 10, 11, 12, 13, 14, 15, 16].all repB) = true := by kernel_rfl
def knRl (l : List Nat) (f : Nat) (args : List Value) : Option Value := if f = 95 then repK args else knL l f args
theorem rep_at {n : Nat} (h : n ≤ 16) : repB n = true := by
  refine List.all_eq_true.1 rep_all n ?_
  have : ∀ m : Fin 17, m.1 ∈ [0, 1, 2, 3, 4, 5, 6, 7, 8, 9, 10, 11, 12, 13, 14, 15, 16] := by decide
  exact this ⟨n, by omega⟩
theorem knows_knRl {l : List Nat} (hl : Knows Tryd.prog laid (knL l)) : Knows Tryd.prog laid (knRl l) := by
  intro f args v hk hp
  unfold knRl at hk
  split at hk
  · rename_i hf
    subst hf
    unfold repK at hk
    split at hk
    · rename_i b n
      split at hk
      · rename_i hc
        cases hk
        obtain ⟨m, rfl⟩ := Int.eq_ofNat_of_zero_le hc.2.1
        have hb : b = ⟨#[48]⟩ := by
          cases b
          rename_i d
          cases d
          simp at hc
          rw [hc.1]
        subst hb
        refine known_of_WC (soundK (k := fun _ _ => none) (fun _ _ _ h => by cases h)) (G := gsize) laidW (by kernel_rfl) hp rfl ?_
        have h1 := rep_at (n := m) (by omega)
        unfold repB at h1
        split at h1
        · rename_i b s' h2
          refine ⟨_, _, _, h2, ?_⟩
          have h3 : b.data.toList = List.replicate m 48 := by simpa using h1
          show Value.string b = Value.string ⟨(List.replicate m 48).toArray⟩
          rw [← h3]
        · cases h1
      · cases hk
    · cases hk
  · exact hl f args v hk hp
theorem open_knRl (l : List Nat) : ∀ f, f ≠ 95 → Open (knRl l) f := fun f hf v r => by
  unfold knRl
  rw [if_neg hf]
  exact open_knL l f v r
theorem knRl_rep (l : List Nat) {d : Nat} (hd : d ≤ 16) : knRl l 95 [.string ⟨#[48]⟩, .int .i64 d] = some (.string ⟨(List.replicate d 48).toArray⟩) := by
  unfold knRl repK
  rw [if_pos rfl]
  simp
  omega
theorem hrep_knRl (l : List Nat) : ∀ d : Nat, d ≤ 16 → PC (XK (knRl l)) 95 [tx [48], .c (.int .i64 d)] (tx (List.replicate d 48)) := fun d hd _ =>
  VC_known (ws := [.string ⟨#[48]⟩, .int .i64 d]) (v := .string ⟨(List.replicate d 48).toArray⟩) (knRl_rep l hd) rfl rfl ⟨rfl, rfl⟩
@[reducible] def knR : Nat → List Value → Option Value := knRl awl
theorem open_knR : ∀ f, f ≠ 95 → Open knR f := open_knRl awl
theorem hrep_knR : ∀ d : Nat, d ≤ 16 → PC (XK knR) 95 [tx [48], .c (.int .i64 d)] (tx (List.replicate d 48)) := hrep_knRl awl
theorem sound : SoundF (XK knR) Tryd.prog := soundK (knows_knRl knows_aw)
end Go.Proofs.YtpckldhojfjdmaaDoor.Ab
