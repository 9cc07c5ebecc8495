/- class.Of is known; what awake() answers. -/
import Derived.Test.YtndedkpcfjnecaaDoorLClass
namespace Go.Proofs.YtndedkpcfjnecaaDoor.Ab
open Go.Proofs
set_option maxRecDepth 100000
def kOf (f : Nat) (args : List Value) : Option Value := if f = 10 then match args with | [.int .i64 v] => some (.int .i64 (classOf v)) | _ => none else none
theorem laidO : laidOnce laid = true := by kernel_rfl
theorem knows_of10 : Knows Tryd.prog laid kOf := by
  intro f args v hk hp
  unfold kOf at hk
  split at hk
  · rename_i hf
    subst hf
    split at hk
    · rename_i x
      cases hk
      exact known_of_WC (soundK (k := fun _ _ => none) (fun _ _ _ h => by cases h)) (G := gsize) laidW hp rfl (WC_mono (classOf_ok closed_none x _ (LaidS.start laidW laidO)) fun v s h => h.1)
    · cases hk
  · cases hk
theorem aw9 : awk gsize (XK kOf) 9 = true := by kernel_rfl
theorem aw17 : awk gsize (XK kOf) 17 = true := by kernel_rfl
def awl : List Nat := [9, 17]
theorem knows_aw : Knows Tryd.prog laid (knL awl) := knows_more (X0 := X0) (soundK knows_of10) laidW fun f hf => by
  simp only [awl, List.mem_cons, List.not_mem_nil, or_false] at hf
  rcases hf with rfl | rfl
  · exact aw9
  · exact aw17
theorem sound : SoundF (XK (knL awl)) Tryd.prog := soundK knows_aw
end Go.Proofs.YtndedkpcfjnecaaDoor.Ab
