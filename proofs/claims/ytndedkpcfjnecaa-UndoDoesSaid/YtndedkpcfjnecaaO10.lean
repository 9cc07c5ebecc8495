/- Trails: the document's trail as it begins, with nil slices. -/
import Derived.Test.YtndedkpcfjnecaaO9
namespace Go.Proofs.Ytndedkpcfjnecaa.Ab
open Go.Proofs
set_option maxRecDepth 100000
set_option maxHeartbeats 4000000
set_option linter.unusedSimpArgs false
set_option linter.unusedVariables false
set_option linter.unnecessarySimpa false
set_option linter.unusedSectionVars false
/-- The cells of the document's trail: told, or all zero. -/
def Rw (C : List AV) (now : Ln) (L M : List Ln) : Prop := C = eTT now L M ∨ (C = [.c (.slice none 0 0), .c (.int .i64 0), .c (.slice none 0 0), .c (.slice none 0 0)] ∧ now = ([], 0) ∧ L = [] ∧ M = [])
theorem Rw.se {X : Prg} {P N : Nat → Prop} {vs : VS} {C : List AV} {now : Ln} {L M : List Ln} (h : Rw C now L M) : Se X P N vs (.agg C) (.agg (eTT now L M)) := by
  rcases h with rfl | ⟨rfl, rfl, rfl, rfl⟩
  · exact Se.firm (Firm.agg (firm_eTT _ _ _))
  · exact Se.agg (Ses.cons (Se.nil 2) (Ses.cons (Se.c _) (Ses.cons (Se.nil 2) (Ses.cons (Se.nil 2) Ses.nil))))
theorem does_arg {X : Prg} {f : Nat} {a : Addr} {C : List AV} {now x : Ln} {L M : List Ln} {kd : Int} {join : Bool} {most : Int} {vs : VS} {K : AV → VS → Prop} (h : Rw C now L M)
    (hv : VC X f [.ptr a, .agg (eTT now L M), .agg [.c (.int .i64 kd), LS x.1, .c (.int .i64 x.2), .c (.bool join)], .c (.int .i64 most)] (vs.drop Non) K) : VC X f [.ptr a, .agg C, .agg [.c (.int .i64 kd), LS x.1, .c (.int .i64 x.2), .c (.bool join)], .c (.int .i64 most)] vs K :=
  VC_freeze Non (Ses.cons (Se.ptrN trivial) (Ses.cons h.se (Ses.cons (Se.agg (Ses.cons (Se.c _) (Ses.cons (Se.firm (Firm.LS _)) (Ses.cons (Se.c _) (Ses.cons (Se.c _) Ses.nil))))) (Ses.cons (Se.c _) Ses.nil)))) hv
theorem drop_Non (vs : VS) : vs.drop Non = vs := by
  unfold VS.drop Non
  simp
section
variable {k : Nat → List Value → Option Value} (hk : ∀ f, f ≠ 69 → Open k f)
include hk
theorem does_okR {s0 s : VS} {b : Nat} {now : Ln} {L M : List Ln} {most : Int} {n : Nat} {C : List AV} (hC : Rw C now L M) (hi : Inv s0 s b now L M most n) (hn : n < 5000) (kd : Int) (x : Ln) (join : Bool) (hx : x.1.length ≤ 60) {K : AV → VS → Prop}
    (hK : ∀ s' now' L' M', Inv s0 s' b now' L' M' most (n + 1) → Ft s s' b → K (.tup [.agg (eTT now' L' M'), .c (.bool true)]) s') : VC (XK k) 38 [.ptr ⟨b, 0, none⟩, .agg C, .agg [.c (.int .i64 kd), LS x.1, .c (.int .i64 x.2), .c (.bool join)], .c (.int .i64 most)] s K :=
  does_arg hC (by rw [drop_Non]; exact does_ok hk hi hn kd x join hx hK)
/-- What holds at the start. -/
theorem Inv.start {s s' : VS} {most : Int} (h : Trl s s' s.size ([], 0) [] [] most) (hs : s.size ≤ s'.size) (hm : 0 ≤ most) : Inv s s' s.size ([], 0) [] [] most 0 := ⟨[], [], h, .nil _, .nil _, Nat.zero_le _, Nat.le_refl _, hs, hm⟩
end
end Go.Proofs.Ytndedkpcfjnecaa.Ab
