/- The places of this seat's code, by names. Written by mkcode.py. -/
import Derived.Test.YtndedkpcfjnecaaDoorV
import Derived.Test.YtndedkpcfjnecaaDoorT
namespace Go.Proofs.YtndedkpcfjnecaaDoor.Ab
open Go.Proofs
set_option maxRecDepth 100000
set_option linter.unusedVariables false
set_option linter.defProp false
section
variable {k : Nat → List Value → Option Value}
noncomputable def f3c0 : Code := bodyOf Tryd.f3
noncomputable def f3c1 : Code := codeAt f3c0 [0]
noncomputable def f3n1 := @n_region (XK k) f3c1 _ _ _ rfl (by kernel_rfl)
noncomputable def f3c2 : Code := codeAt f3c0 [1]
noncomputable def f3c3 : Code := codeAt f3c0 [1, 0]
noncomputable def f3n3 := @n_region (XK k) f3c3 _ _ _ rfl (by kernel_rfl)
noncomputable def f3c4 : Code := codeAt f3c0 [1, 1]
noncomputable def f3c5 : Code := codeAt f3c0 [1, 1, 0]
noncomputable def f3n5 := @n_region (XK k) f3c5 _ _ _ rfl (by kernel_rfl)
noncomputable def f3c6 : Code := codeAt f3c0 [1, 1, 1]
noncomputable def f3c7 : Code := codeAt f3c0 [1, 1, 1, 0]
noncomputable def f3n7 := @n_region (XK k) f3c7 _ _ _ rfl (by kernel_rfl)
noncomputable def f3c8 : Code := codeAt f3c0 [1, 1, 1, 1]
theorem f3n8 {ρ : Env} {s : St} {Q : Xit → Env → St → Prop} : wp (XK k) f3c8 ρ s Q = Q .ret ρ s := n_ret (by kernel_rfl)
theorem f3n6 {ρ : Env} {s : St} {Q : Xit → Env → St → Prop} : wp (XK k) f3c6 ρ s Q = wp (XK k) f3c7 ρ s (seqP (XK k) f3c8 Q) := n_seq (by kernel_rfl)
theorem f3n4 {ρ : Env} {s : St} {Q : Xit → Env → St → Prop} : wp (XK k) f3c4 ρ s Q = wp (XK k) f3c5 ρ s (seqP (XK k) f3c6 Q) := n_seq (by kernel_rfl)
theorem f3n2 {ρ : Env} {s : St} {Q : Xit → Env → St → Prop} : wp (XK k) f3c2 ρ s Q = wp (XK k) f3c3 ρ s (seqP (XK k) f3c4 Q) := n_seq (by kernel_rfl)
theorem f3n0 {ρ : Env} {s : St} {Q : Xit → Env → St → Prop} : wp (XK k) f3c0 ρ s Q = wp (XK k) f3c1 ρ s (seqP (XK k) f3c2 Q) := n_seq (by kernel_rfl)
theorem f3_in (hk : Closed k) {x0 : Value} {s : St} {Q : Value → St → Prop} (h : wp (XK k) f3c0 (Env.of [x0]) s (rtP (XK k) [.tmp 2] Q)) : WC (XK k) 3 [x0] s Q := WC_in (fn := Tryd.f3) (c := f3c0) (n := 52) (hk _ _ _) (by kernel_rfl) (by kernel_rfl) (by kernel_rfl) (by kernel_rfl) rfl h
def f3N0 := And.intro (@f3n0 k) (And.intro (@f3n1 k) (And.intro (@f3n2 k) (And.intro (@f3n3 k) (And.intro (@f3n4 k) (And.intro (@f3n5 k) (And.intro (@f3n6 k) (And.intro (@f3n7 k) (@f3n8 k))))))))
noncomputable def f4c0 : Code := bodyOf Tryd.f4
noncomputable def f4c1 : Code := codeAt f4c0 [0]
noncomputable def f4n1 := @n_region (XK k) f4c1 _ _ _ rfl (by kernel_rfl)
noncomputable def f4c2 : Code := codeAt f4c0 [1]
noncomputable def f4c3 : Code := codeAt f4c0 [1, 0]
noncomputable def f4c4 : Code := codeAt f4c0 [1, 0, 0]
noncomputable def f4n4 := @n_region (XK k) f4c4 _ _ _ rfl (by kernel_rfl)
noncomputable def f4c5 : Code := codeAt f4c0 [1, 0, 1]
noncomputable def f4c6 : Code := codeAt f4c0 [1, 0, 1, 0]
noncomputable def f4c7 : Code := codeAt f4c0 [1, 0, 1, 0, 0]
noncomputable def f4n7 := @n_region (XK k) f4c7 _ _ _ rfl (by kernel_rfl)
noncomputable def f4c8 : Code := codeAt f4c0 [1, 0, 1, 0, 1]
theorem f4n8 {ρ : Env} {s : St} {Q : Xit → Env → St → Prop} : wp (XK k) f4c8 ρ s Q = Q .ret ρ s := n_ret (by kernel_rfl)
theorem f4n6 {ρ : Env} {s : St} {Q : Xit → Env → St → Prop} : wp (XK k) f4c6 ρ s Q = wp (XK k) f4c7 ρ s (seqP (XK k) f4c8 Q) := n_seq (by kernel_rfl)
noncomputable def f4c9 : Code := codeAt f4c0 [1, 0, 1, 1]
theorem f4n9 {ρ : Env} {s : St} {Q : Xit → Env → St → Prop} : wp (XK k) f4c9 ρ s Q = Q .normal ρ s := n_skip (by kernel_rfl)
theorem f4n5 {ρ : Env} {s : St} {Q : Xit → Env → St → Prop} : wp (XK k) f4c5 ρ s Q = condP (XK k) (boolOf (evo ρ (.tmp 16))) f4c6 f4c9 ρ s Q := n_cond (by kernel_rfl)
theorem f4n3 {ρ : Env} {s : St} {Q : Xit → Env → St → Prop} : wp (XK k) f4c3 ρ s Q = wp (XK k) f4c4 ρ s (seqP (XK k) f4c5 Q) := n_seq (by kernel_rfl)
noncomputable def f4c10 : Code := codeAt f4c0 [1, 1]
noncomputable def f4c11 : Code := codeAt f4c0 [1, 1, 0]
noncomputable def f4n11 := @n_region (XK k) f4c11 _ _ _ rfl (by kernel_rfl)
noncomputable def f4c12 : Code := codeAt f4c0 [1, 1, 1]
noncomputable def f4c13 : Code := codeAt f4c0 [1, 1, 1, 0]
noncomputable def f4c14 : Code := codeAt f4c0 [1, 1, 1, 0, 0]
noncomputable def f4n14 := @n_region (XK k) f4c14 _ _ _ rfl (by kernel_rfl)
noncomputable def f4c15 : Code := codeAt f4c0 [1, 1, 1, 0, 1]
noncomputable def f4c16 : Code := codeAt f4c0 [1, 1, 1, 0, 1, 0]
noncomputable def f4c17 : Code := codeAt f4c0 [1, 1, 1, 0, 1, 0, 0]
noncomputable def f4c18 : Code := codeAt f4c0 [1, 1, 1, 0, 1, 0, 0, 0]
noncomputable def f4c19 : Code := codeAt f4c0 [1, 1, 1, 0, 1, 0, 0, 0, 0]
noncomputable def f4n19 := @n_region (XK k) f4c19 _ _ _ rfl (by kernel_rfl)
noncomputable def f4c20 : Code := codeAt f4c0 [1, 1, 1, 0, 1, 0, 0, 0, 1]
noncomputable def f4c21 : Code := codeAt f4c0 [1, 1, 1, 0, 1, 0, 0, 0, 1, 0]
theorem f4n21 {ρ : Env} {s : St} {Q : Xit → Env → St → Prop} : wp (XK k) f4c21 ρ s Q = Q .normal ρ s := n_skip (by kernel_rfl)
noncomputable def f4c22 : Code := codeAt f4c0 [1, 1, 1, 0, 1, 0, 0, 0, 1, 1]
theorem f4n22 {ρ : Env} {s : St} {Q : Xit → Env → St → Prop} : wp (XK k) f4c22 ρ s Q = Q (.exit 0) ρ s := n_exit (by kernel_rfl)
theorem f4n20 {ρ : Env} {s : St} {Q : Xit → Env → St → Prop} : wp (XK k) f4c20 ρ s Q = condP (XK k) (boolOf (evo ρ (.tmp 21))) f4c21 f4c22 ρ s Q := n_cond (by kernel_rfl)
theorem f4n18 {ρ : Env} {s : St} {Q : Xit → Env → St → Prop} : wp (XK k) f4c18 ρ s Q = wp (XK k) f4c19 ρ s (seqP (XK k) f4c20 Q) := n_seq (by kernel_rfl)
noncomputable def f4c23 : Code := codeAt f4c0 [1, 1, 1, 0, 1, 0, 0, 1]
noncomputable def f4c24 : Code := codeAt f4c0 [1, 1, 1, 0, 1, 0, 0, 1, 0]
noncomputable def f4c25 : Code := codeAt f4c0 [1, 1, 1, 0, 1, 0, 0, 1, 0, 0]
noncomputable def f4n25 := @n_region (XK k) f4c25 _ _ _ rfl (by kernel_rfl)
theorem f4n24 {ρ : Env} {s : St} {Q : Xit → Env → St → Prop} : wp (XK k) f4c24 ρ s Q = wp (XK k) f4c25 ρ s (blockQ 1 Q) := n_block (by kernel_rfl)
noncomputable def f4c26 : Code := codeAt f4c0 [1, 1, 1, 0, 1, 0, 0, 1, 1]
noncomputable def f4n26 := @n_region (XK k) f4c26 _ _ _ rfl (by kernel_rfl)
theorem f4n23 {ρ : Env} {s : St} {Q : Xit → Env → St → Prop} : wp (XK k) f4c23 ρ s Q = wp (XK k) f4c24 ρ s (seqP (XK k) f4c26 Q) := n_seq (by kernel_rfl)
theorem f4n17 {ρ : Env} {s : St} {Q : Xit → Env → St → Prop} : wp (XK k) f4c17 ρ s Q = wp (XK k) f4c18 ρ s (seqP (XK k) f4c23 Q) := n_seq (by kernel_rfl)
theorem f4n16 {ρ : Env} {s : St} {Q : Xit → Env → St → Prop} : wp (XK k) f4c16 ρ s Q = W (XK k) (.loop f4c17) ρ s Q := n_loop (by kernel_rfl)
theorem f4n15 {ρ : Env} {s : St} {Q : Xit → Env → St → Prop} : wp (XK k) f4c15 ρ s Q = wp (XK k) f4c16 ρ s (blockQ 0 Q) := n_block (by kernel_rfl)
theorem f4n13 {ρ : Env} {s : St} {Q : Xit → Env → St → Prop} : wp (XK k) f4c13 ρ s Q = wp (XK k) f4c14 ρ s (seqP (XK k) f4c15 Q) := n_seq (by kernel_rfl)
noncomputable def f4c27 : Code := codeAt f4c0 [1, 1, 1, 1]
noncomputable def f4c28 : Code := codeAt f4c0 [1, 1, 1, 1, 0]
noncomputable def f4n28 := @n_region (XK k) f4c28 _ _ _ rfl (by kernel_rfl)
noncomputable def f4c29 : Code := codeAt f4c0 [1, 1, 1, 1, 1]
noncomputable def f4c30 : Code := codeAt f4c0 [1, 1, 1, 1, 1, 0]
noncomputable def f4c31 : Code := codeAt f4c0 [1, 1, 1, 1, 1, 0, 0]
noncomputable def f4n31 := @n_region (XK k) f4c31 _ _ _ rfl (by kernel_rfl)
noncomputable def f4c32 : Code := codeAt f4c0 [1, 1, 1, 1, 1, 0, 1]
noncomputable def f4c33 : Code := codeAt f4c0 [1, 1, 1, 1, 1, 0, 1, 0]
noncomputable def f4c34 : Code := codeAt f4c0 [1, 1, 1, 1, 1, 0, 1, 0, 0]
noncomputable def f4c35 : Code := codeAt f4c0 [1, 1, 1, 1, 1, 0, 1, 0, 0, 0]
noncomputable def f4c36 : Code := codeAt f4c0 [1, 1, 1, 1, 1, 0, 1, 0, 0, 0, 0]
noncomputable def f4n36 := @n_region (XK k) f4c36 _ _ _ rfl (by kernel_rfl)
noncomputable def f4c37 : Code := codeAt f4c0 [1, 1, 1, 1, 1, 0, 1, 0, 0, 0, 1]
noncomputable def f4c38 : Code := codeAt f4c0 [1, 1, 1, 1, 1, 0, 1, 0, 0, 0, 1, 0]
theorem f4n38 {ρ : Env} {s : St} {Q : Xit → Env → St → Prop} : wp (XK k) f4c38 ρ s Q = Q .normal ρ s := n_skip (by kernel_rfl)
noncomputable def f4c39 : Code := codeAt f4c0 [1, 1, 1, 1, 1, 0, 1, 0, 0, 0, 1, 1]
theorem f4n39 {ρ : Env} {s : St} {Q : Xit → Env → St → Prop} : wp (XK k) f4c39 ρ s Q = Q (.exit 2) ρ s := n_exit (by kernel_rfl)
theorem f4n37 {ρ : Env} {s : St} {Q : Xit → Env → St → Prop} : wp (XK k) f4c37 ρ s Q = condP (XK k) (boolOf (evo ρ (.tmp 44))) f4c38 f4c39 ρ s Q := n_cond (by kernel_rfl)
theorem f4n35 {ρ : Env} {s : St} {Q : Xit → Env → St → Prop} : wp (XK k) f4c35 ρ s Q = wp (XK k) f4c36 ρ s (seqP (XK k) f4c37 Q) := n_seq (by kernel_rfl)
noncomputable def f4c40 : Code := codeAt f4c0 [1, 1, 1, 1, 1, 0, 1, 0, 0, 1]
noncomputable def f4c41 : Code := codeAt f4c0 [1, 1, 1, 1, 1, 0, 1, 0, 0, 1, 0]
noncomputable def f4c42 : Code := codeAt f4c0 [1, 1, 1, 1, 1, 0, 1, 0, 0, 1, 0, 0]
noncomputable def f4n42 := @n_regionD (XK k) f4c42 _ _ _ [(2, []), (2, []), (2, []), (2, []), (1, []), (2, [4]), (2, [4]), (2, [4]), (2, [4]), (1, []), (2, []), (2, [])] rfl (by kernel_rfl) (by kernel_rfl) (by kernel_rfl)
theorem f4n41 {ρ : Env} {s : St} {Q : Xit → Env → St → Prop} : wp (XK k) f4c41 ρ s Q = wp (XK k) f4c42 ρ s (blockQ 3 Q) := n_block (by kernel_rfl)
noncomputable def f4c43 : Code := codeAt f4c0 [1, 1, 1, 1, 1, 0, 1, 0, 0, 1, 1]
noncomputable def f4n43 := @n_region (XK k) f4c43 _ _ _ rfl (by kernel_rfl)
theorem f4n40 {ρ : Env} {s : St} {Q : Xit → Env → St → Prop} : wp (XK k) f4c40 ρ s Q = wp (XK k) f4c41 ρ s (seqP (XK k) f4c43 Q) := n_seq (by kernel_rfl)
theorem f4n34 {ρ : Env} {s : St} {Q : Xit → Env → St → Prop} : wp (XK k) f4c34 ρ s Q = wp (XK k) f4c35 ρ s (seqP (XK k) f4c40 Q) := n_seq (by kernel_rfl)
theorem f4n33 {ρ : Env} {s : St} {Q : Xit → Env → St → Prop} : wp (XK k) f4c33 ρ s Q = W (XK k) (.loop f4c34) ρ s Q := n_loop (by kernel_rfl)
theorem f4n32 {ρ : Env} {s : St} {Q : Xit → Env → St → Prop} : wp (XK k) f4c32 ρ s Q = wp (XK k) f4c33 ρ s (blockQ 2 Q) := n_block (by kernel_rfl)
theorem f4n30 {ρ : Env} {s : St} {Q : Xit → Env → St → Prop} : wp (XK k) f4c30 ρ s Q = wp (XK k) f4c31 ρ s (seqP (XK k) f4c32 Q) := n_seq (by kernel_rfl)
noncomputable def f4c44 : Code := codeAt f4c0 [1, 1, 1, 1, 1, 1]
noncomputable def f4c45 : Code := codeAt f4c0 [1, 1, 1, 1, 1, 1, 0]
noncomputable def f4n45 := @n_regionD (XK k) f4c45 _ _ _ [(1, []), (2, []), (2, []), (1, []), (2, [3]), (2, []), (2, []), (2, []), (2, []), (2, []), (1, []), (2, [10]), (2, []), (2, []), (2, []), (2, []), (2, []), (1, []), (2, [17]), (2, []), (2, []), (2, [])] rfl (by kernel_rfl) (by kernel_rfl) (by kernel_rfl)
noncomputable def f4c46 : Code := codeAt f4c0 [1, 1, 1, 1, 1, 1, 1]
theorem f4n46 {ρ : Env} {s : St} {Q : Xit → Env → St → Prop} : wp (XK k) f4c46 ρ s Q = Q .ret ρ s := n_ret (by kernel_rfl)
theorem f4n44 {ρ : Env} {s : St} {Q : Xit → Env → St → Prop} : wp (XK k) f4c44 ρ s Q = wp (XK k) f4c45 ρ s (seqP (XK k) f4c46 Q) := n_seq (by kernel_rfl)
theorem f4n29 {ρ : Env} {s : St} {Q : Xit → Env → St → Prop} : wp (XK k) f4c29 ρ s Q = wp (XK k) f4c30 ρ s (seqP (XK k) f4c44 Q) := n_seq (by kernel_rfl)
theorem f4n27 {ρ : Env} {s : St} {Q : Xit → Env → St → Prop} : wp (XK k) f4c27 ρ s Q = wp (XK k) f4c28 ρ s (seqP (XK k) f4c29 Q) := n_seq (by kernel_rfl)
theorem f4n12 {ρ : Env} {s : St} {Q : Xit → Env → St → Prop} : wp (XK k) f4c12 ρ s Q = wp (XK k) f4c13 ρ s (seqP (XK k) f4c27 Q) := n_seq (by kernel_rfl)
theorem f4n10 {ρ : Env} {s : St} {Q : Xit → Env → St → Prop} : wp (XK k) f4c10 ρ s Q = wp (XK k) f4c11 ρ s (seqP (XK k) f4c12 Q) := n_seq (by kernel_rfl)
theorem f4n2 {ρ : Env} {s : St} {Q : Xit → Env → St → Prop} : wp (XK k) f4c2 ρ s Q = wp (XK k) f4c3 ρ s (seqP (XK k) f4c10 Q) := n_seq (by kernel_rfl)
theorem f4n0 {ρ : Env} {s : St} {Q : Xit → Env → St → Prop} : wp (XK k) f4c0 ρ s Q = wp (XK k) f4c1 ρ s (seqP (XK k) f4c2 Q) := n_seq (by kernel_rfl)
theorem f4_in (hk : Closed k) {x0 : Value} {x1 : Value} {s : St} {Q : Value → St → Prop} (h : wp (XK k) f4c0 (Env.of [x0, x1]) s (rtP (XK k) [.tmp 4] Q)) : WC (XK k) 4 [x0, x1] s Q := WC_in (fn := Tryd.f4) (c := f4c0) (n := 79) (hk _ _ _) (by kernel_rfl) (by kernel_rfl) (by kernel_rfl) (by kernel_rfl) rfl h
def f4N0 := And.intro (@f4n0 k) (And.intro (@f4n1 k) (And.intro (@f4n2 k) (And.intro (@f4n3 k) (And.intro (@f4n4 k) (And.intro (@f4n5 k) (And.intro (@f4n6 k) (And.intro (@f4n7 k) (And.intro (@f4n8 k) (@f4n9 k)))))))))
def f4N1 := And.intro (@f4n10 k) (And.intro (@f4n11 k) (And.intro (@f4n12 k) (And.intro (@f4n13 k) (And.intro (@f4n14 k) (And.intro (@f4n15 k) (And.intro (@f4n16 k) (And.intro (@f4n17 k) (And.intro (@f4n18 k) (@f4n19 k)))))))))
def f4N2 := And.intro (@f4n20 k) (And.intro (@f4n21 k) (And.intro (@f4n22 k) (And.intro (@f4n23 k) (And.intro (@f4n24 k) (And.intro (@f4n25 k) (And.intro (@f4n26 k) (And.intro (@f4n27 k) (And.intro (@f4n28 k) (@f4n29 k)))))))))
def f4N3 := And.intro (@f4n30 k) (And.intro (@f4n31 k) (And.intro (@f4n32 k) (And.intro (@f4n33 k) (And.intro (@f4n34 k) (And.intro (@f4n35 k) (And.intro (@f4n36 k) (And.intro (@f4n37 k) (And.intro (@f4n38 k) (@f4n39 k)))))))))
def f4N4 := And.intro (@f4n40 k) (And.intro (@f4n41 k) (And.intro (@f4n42 k) (And.intro (@f4n43 k) (And.intro (@f4n44 k) (And.intro (@f4n45 k) (@f4n46 k))))))
noncomputable def f5c0 : Code := bodyOf Tryd.f5
noncomputable def f5c1 : Code := codeAt f5c0 [0]
noncomputable def f5n1 := @n_region (XK k) f5c1 _ _ _ rfl (by kernel_rfl)
noncomputable def f5c2 : Code := codeAt f5c0 [1]
noncomputable def f5c3 : Code := codeAt f5c0 [1, 0]
noncomputable def f5n3 := @n_region (XK k) f5c3 _ _ _ rfl (by kernel_rfl)
noncomputable def f5c4 : Code := codeAt f5c0 [1, 1]
theorem f5n4 {ρ : Env} {s : St} {Q : Xit → Env → St → Prop} : wp (XK k) f5c4 ρ s Q = Q .ret ρ s := n_ret (by kernel_rfl)
theorem f5n2 {ρ : Env} {s : St} {Q : Xit → Env → St → Prop} : wp (XK k) f5c2 ρ s Q = wp (XK k) f5c3 ρ s (seqP (XK k) f5c4 Q) := n_seq (by kernel_rfl)
theorem f5n0 {ρ : Env} {s : St} {Q : Xit → Env → St → Prop} : wp (XK k) f5c0 ρ s Q = wp (XK k) f5c1 ρ s (seqP (XK k) f5c2 Q) := n_seq (by kernel_rfl)
theorem f5_in (hk : Closed k) {x0 : Value} {s : St} {Q : Value → St → Prop} (h : wp (XK k) f5c0 (Env.of [x0]) s (rtP (XK k) [.tmp 2] Q)) : WC (XK k) 5 [x0] s Q := WC_in (fn := Tryd.f5) (c := f5c0) (n := 11) (hk _ _ _) (by kernel_rfl) (by kernel_rfl) (by kernel_rfl) (by kernel_rfl) rfl h
def f5N0 := And.intro (@f5n0 k) (And.intro (@f5n1 k) (And.intro (@f5n2 k) (And.intro (@f5n3 k) (@f5n4 k))))
noncomputable def f7c0 : Code := bodyOf Tryd.f7
noncomputable def f7c1 : Code := codeAt f7c0 [0]
noncomputable def f7n1 := @n_region (XK k) f7c1 _ _ _ rfl (by kernel_rfl)
noncomputable def f7c2 : Code := codeAt f7c0 [1]
noncomputable def f7c3 : Code := codeAt f7c0 [1, 0]
noncomputable def f7c4 : Code := codeAt f7c0 [1, 0, 0]
noncomputable def f7n4 := @n_region (XK k) f7c4 _ _ _ rfl (by kernel_rfl)
noncomputable def f7c5 : Code := codeAt f7c0 [1, 0, 1]
noncomputable def f7c6 : Code := codeAt f7c0 [1, 0, 1, 0]
noncomputable def f7c7 : Code := codeAt f7c0 [1, 0, 1, 0, 0]
noncomputable def f7n7 := @n_region (XK k) f7c7 _ _ _ rfl (by kernel_rfl)
noncomputable def f7c8 : Code := codeAt f7c0 [1, 0, 1, 0, 1]
theorem f7n8 {ρ : Env} {s : St} {Q : Xit → Env → St → Prop} : wp (XK k) f7c8 ρ s Q = Q .ret ρ s := n_ret (by kernel_rfl)
theorem f7n6 {ρ : Env} {s : St} {Q : Xit → Env → St → Prop} : wp (XK k) f7c6 ρ s Q = wp (XK k) f7c7 ρ s (seqP (XK k) f7c8 Q) := n_seq (by kernel_rfl)
noncomputable def f7c9 : Code := codeAt f7c0 [1, 0, 1, 1]
theorem f7n9 {ρ : Env} {s : St} {Q : Xit → Env → St → Prop} : wp (XK k) f7c9 ρ s Q = Q .normal ρ s := n_skip (by kernel_rfl)
theorem f7n5 {ρ : Env} {s : St} {Q : Xit → Env → St → Prop} : wp (XK k) f7c5 ρ s Q = condP (XK k) (boolOf (evo ρ (.tmp 6))) f7c6 f7c9 ρ s Q := n_cond (by kernel_rfl)
theorem f7n3 {ρ : Env} {s : St} {Q : Xit → Env → St → Prop} : wp (XK k) f7c3 ρ s Q = wp (XK k) f7c4 ρ s (seqP (XK k) f7c5 Q) := n_seq (by kernel_rfl)
noncomputable def f7c10 : Code := codeAt f7c0 [1, 1]
noncomputable def f7c11 : Code := codeAt f7c0 [1, 1, 0]
noncomputable def f7c12 : Code := codeAt f7c0 [1, 1, 0, 0]
noncomputable def f7n12 := @n_region (XK k) f7c12 _ _ _ rfl (by kernel_rfl)
noncomputable def f7c13 : Code := codeAt f7c0 [1, 1, 0, 1]
noncomputable def f7c14 : Code := codeAt f7c0 [1, 1, 0, 1, 0]
noncomputable def f7c15 : Code := codeAt f7c0 [1, 1, 0, 1, 0, 0]
noncomputable def f7n15 := @n_region (XK k) f7c15 _ _ _ rfl (by kernel_rfl)
noncomputable def f7c16 : Code := codeAt f7c0 [1, 1, 0, 1, 0, 1]
theorem f7n16 {ρ : Env} {s : St} {Q : Xit → Env → St → Prop} : wp (XK k) f7c16 ρ s Q = Q .ret ρ s := n_ret (by kernel_rfl)
theorem f7n14 {ρ : Env} {s : St} {Q : Xit → Env → St → Prop} : wp (XK k) f7c14 ρ s Q = wp (XK k) f7c15 ρ s (seqP (XK k) f7c16 Q) := n_seq (by kernel_rfl)
noncomputable def f7c17 : Code := codeAt f7c0 [1, 1, 0, 1, 1]
theorem f7n17 {ρ : Env} {s : St} {Q : Xit → Env → St → Prop} : wp (XK k) f7c17 ρ s Q = Q .normal ρ s := n_skip (by kernel_rfl)
theorem f7n13 {ρ : Env} {s : St} {Q : Xit → Env → St → Prop} : wp (XK k) f7c13 ρ s Q = condP (XK k) (boolOf (evo ρ (.tmp 8))) f7c14 f7c17 ρ s Q := n_cond (by kernel_rfl)
theorem f7n11 {ρ : Env} {s : St} {Q : Xit → Env → St → Prop} : wp (XK k) f7c11 ρ s Q = wp (XK k) f7c12 ρ s (seqP (XK k) f7c13 Q) := n_seq (by kernel_rfl)
noncomputable def f7c18 : Code := codeAt f7c0 [1, 1, 1]
noncomputable def f7c19 : Code := codeAt f7c0 [1, 1, 1, 0]
noncomputable def f7c20 : Code := codeAt f7c0 [1, 1, 1, 0, 0]
noncomputable def f7n20 := @n_region (XK k) f7c20 _ _ _ rfl (by kernel_rfl)
noncomputable def f7c21 : Code := codeAt f7c0 [1, 1, 1, 0, 1]
noncomputable def f7c22 : Code := codeAt f7c0 [1, 1, 1, 0, 1, 0]
noncomputable def f7n22 := @n_region (XK k) f7c22 _ _ _ rfl (by kernel_rfl)
noncomputable def f7c23 : Code := codeAt f7c0 [1, 1, 1, 0, 1, 1]
noncomputable def f7c24 : Code := codeAt f7c0 [1, 1, 1, 0, 1, 1, 0]
noncomputable def f7c25 : Code := codeAt f7c0 [1, 1, 1, 0, 1, 1, 0, 0]
noncomputable def f7n25 := @n_region (XK k) f7c25 _ _ _ rfl (by kernel_rfl)
noncomputable def f7c26 : Code := codeAt f7c0 [1, 1, 1, 0, 1, 1, 0, 1]
theorem f7n26 {ρ : Env} {s : St} {Q : Xit → Env → St → Prop} : wp (XK k) f7c26 ρ s Q = Q .ret ρ s := n_ret (by kernel_rfl)
theorem f7n24 {ρ : Env} {s : St} {Q : Xit → Env → St → Prop} : wp (XK k) f7c24 ρ s Q = wp (XK k) f7c25 ρ s (seqP (XK k) f7c26 Q) := n_seq (by kernel_rfl)
noncomputable def f7c27 : Code := codeAt f7c0 [1, 1, 1, 0, 1, 1, 1]
theorem f7n27 {ρ : Env} {s : St} {Q : Xit → Env → St → Prop} : wp (XK k) f7c27 ρ s Q = Q .normal ρ s := n_skip (by kernel_rfl)
theorem f7n23 {ρ : Env} {s : St} {Q : Xit → Env → St → Prop} : wp (XK k) f7c23 ρ s Q = condP (XK k) (boolOf (evo ρ (.tmp 12))) f7c24 f7c27 ρ s Q := n_cond (by kernel_rfl)
theorem f7n21 {ρ : Env} {s : St} {Q : Xit → Env → St → Prop} : wp (XK k) f7c21 ρ s Q = wp (XK k) f7c22 ρ s (seqP (XK k) f7c23 Q) := n_seq (by kernel_rfl)
theorem f7n19 {ρ : Env} {s : St} {Q : Xit → Env → St → Prop} : wp (XK k) f7c19 ρ s Q = wp (XK k) f7c20 ρ s (seqP (XK k) f7c21 Q) := n_seq (by kernel_rfl)
noncomputable def f7c28 : Code := codeAt f7c0 [1, 1, 1, 1]
noncomputable def f7c29 : Code := codeAt f7c0 [1, 1, 1, 1, 0]
noncomputable def f7c30 : Code := codeAt f7c0 [1, 1, 1, 1, 0, 0]
noncomputable def f7n30 := @n_region (XK k) f7c30 _ _ _ rfl (by kernel_rfl)
noncomputable def f7c31 : Code := codeAt f7c0 [1, 1, 1, 1, 0, 1]
noncomputable def f7c32 : Code := codeAt f7c0 [1, 1, 1, 1, 0, 1, 0]
noncomputable def f7c33 : Code := codeAt f7c0 [1, 1, 1, 1, 0, 1, 0, 0]
noncomputable def f7n33 := @n_region (XK k) f7c33 _ _ _ rfl (by kernel_rfl)
noncomputable def f7c34 : Code := codeAt f7c0 [1, 1, 1, 1, 0, 1, 0, 1]
theorem f7n34 {ρ : Env} {s : St} {Q : Xit → Env → St → Prop} : wp (XK k) f7c34 ρ s Q = Q .ret ρ s := n_ret (by kernel_rfl)
theorem f7n32 {ρ : Env} {s : St} {Q : Xit → Env → St → Prop} : wp (XK k) f7c32 ρ s Q = wp (XK k) f7c33 ρ s (seqP (XK k) f7c34 Q) := n_seq (by kernel_rfl)
noncomputable def f7c35 : Code := codeAt f7c0 [1, 1, 1, 1, 0, 1, 1]
theorem f7n35 {ρ : Env} {s : St} {Q : Xit → Env → St → Prop} : wp (XK k) f7c35 ρ s Q = Q .normal ρ s := n_skip (by kernel_rfl)
theorem f7n31 {ρ : Env} {s : St} {Q : Xit → Env → St → Prop} : wp (XK k) f7c31 ρ s Q = condP (XK k) (boolOf (evo ρ (.tmp 17))) f7c32 f7c35 ρ s Q := n_cond (by kernel_rfl)
theorem f7n29 {ρ : Env} {s : St} {Q : Xit → Env → St → Prop} : wp (XK k) f7c29 ρ s Q = wp (XK k) f7c30 ρ s (seqP (XK k) f7c31 Q) := n_seq (by kernel_rfl)
noncomputable def f7c36 : Code := codeAt f7c0 [1, 1, 1, 1, 1]
noncomputable def f7c37 : Code := codeAt f7c0 [1, 1, 1, 1, 1, 0]
noncomputable def f7c38 : Code := codeAt f7c0 [1, 1, 1, 1, 1, 0, 0]
noncomputable def f7n38 := @n_region (XK k) f7c38 _ _ _ rfl (by kernel_rfl)
noncomputable def f7c39 : Code := codeAt f7c0 [1, 1, 1, 1, 1, 0, 1]
noncomputable def f7c40 : Code := codeAt f7c0 [1, 1, 1, 1, 1, 0, 1, 0]
noncomputable def f7c41 : Code := codeAt f7c0 [1, 1, 1, 1, 1, 0, 1, 0, 0]
noncomputable def f7n41 := @n_region (XK k) f7c41 _ _ _ rfl (by kernel_rfl)
noncomputable def f7c42 : Code := codeAt f7c0 [1, 1, 1, 1, 1, 0, 1, 0, 1]
theorem f7n42 {ρ : Env} {s : St} {Q : Xit → Env → St → Prop} : wp (XK k) f7c42 ρ s Q = Q .ret ρ s := n_ret (by kernel_rfl)
theorem f7n40 {ρ : Env} {s : St} {Q : Xit → Env → St → Prop} : wp (XK k) f7c40 ρ s Q = wp (XK k) f7c41 ρ s (seqP (XK k) f7c42 Q) := n_seq (by kernel_rfl)
noncomputable def f7c43 : Code := codeAt f7c0 [1, 1, 1, 1, 1, 0, 1, 1]
theorem f7n43 {ρ : Env} {s : St} {Q : Xit → Env → St → Prop} : wp (XK k) f7c43 ρ s Q = Q .normal ρ s := n_skip (by kernel_rfl)
theorem f7n39 {ρ : Env} {s : St} {Q : Xit → Env → St → Prop} : wp (XK k) f7c39 ρ s Q = condP (XK k) (boolOf (evo ρ (.tmp 20))) f7c40 f7c43 ρ s Q := n_cond (by kernel_rfl)
theorem f7n37 {ρ : Env} {s : St} {Q : Xit → Env → St → Prop} : wp (XK k) f7c37 ρ s Q = wp (XK k) f7c38 ρ s (seqP (XK k) f7c39 Q) := n_seq (by kernel_rfl)
noncomputable def f7c44 : Code := codeAt f7c0 [1, 1, 1, 1, 1, 1]
noncomputable def f7c45 : Code := codeAt f7c0 [1, 1, 1, 1, 1, 1, 0]
noncomputable def f7n45 := @n_region (XK k) f7c45 _ _ _ rfl (by kernel_rfl)
noncomputable def f7c46 : Code := codeAt f7c0 [1, 1, 1, 1, 1, 1, 1]
theorem f7n46 {ρ : Env} {s : St} {Q : Xit → Env → St → Prop} : wp (XK k) f7c46 ρ s Q = Q .ret ρ s := n_ret (by kernel_rfl)
theorem f7n44 {ρ : Env} {s : St} {Q : Xit → Env → St → Prop} : wp (XK k) f7c44 ρ s Q = wp (XK k) f7c45 ρ s (seqP (XK k) f7c46 Q) := n_seq (by kernel_rfl)
theorem f7n36 {ρ : Env} {s : St} {Q : Xit → Env → St → Prop} : wp (XK k) f7c36 ρ s Q = wp (XK k) f7c37 ρ s (seqP (XK k) f7c44 Q) := n_seq (by kernel_rfl)
theorem f7n28 {ρ : Env} {s : St} {Q : Xit → Env → St → Prop} : wp (XK k) f7c28 ρ s Q = wp (XK k) f7c29 ρ s (seqP (XK k) f7c36 Q) := n_seq (by kernel_rfl)
theorem f7n18 {ρ : Env} {s : St} {Q : Xit → Env → St → Prop} : wp (XK k) f7c18 ρ s Q = wp (XK k) f7c19 ρ s (seqP (XK k) f7c28 Q) := n_seq (by kernel_rfl)
theorem f7n10 {ρ : Env} {s : St} {Q : Xit → Env → St → Prop} : wp (XK k) f7c10 ρ s Q = wp (XK k) f7c11 ρ s (seqP (XK k) f7c18 Q) := n_seq (by kernel_rfl)
theorem f7n2 {ρ : Env} {s : St} {Q : Xit → Env → St → Prop} : wp (XK k) f7c2 ρ s Q = wp (XK k) f7c3 ρ s (seqP (XK k) f7c10 Q) := n_seq (by kernel_rfl)
theorem f7n0 {ρ : Env} {s : St} {Q : Xit → Env → St → Prop} : wp (XK k) f7c0 ρ s Q = wp (XK k) f7c1 ρ s (seqP (XK k) f7c2 Q) := n_seq (by kernel_rfl)
theorem f7_in (hk : Closed k) {x0 : Value} {s : St} {Q : Value → St → Prop} (h : wp (XK k) f7c0 (Env.of [x0]) s (rtP (XK k) [.tmp 2] Q)) : WC (XK k) 7 [x0] s Q := WC_in (fn := Tryd.f7) (c := f7c0) (n := 21) (hk _ _ _) (by kernel_rfl) (by kernel_rfl) (by kernel_rfl) (by kernel_rfl) rfl h
def f7N0 := And.intro (@f7n0 k) (And.intro (@f7n1 k) (And.intro (@f7n2 k) (And.intro (@f7n3 k) (And.intro (@f7n4 k) (And.intro (@f7n5 k) (And.intro (@f7n6 k) (And.intro (@f7n7 k) (And.intro (@f7n8 k) (@f7n9 k)))))))))
def f7N1 := And.intro (@f7n10 k) (And.intro (@f7n11 k) (And.intro (@f7n12 k) (And.intro (@f7n13 k) (And.intro (@f7n14 k) (And.intro (@f7n15 k) (And.intro (@f7n16 k) (And.intro (@f7n17 k) (And.intro (@f7n18 k) (@f7n19 k)))))))))
def f7N2 := And.intro (@f7n20 k) (And.intro (@f7n21 k) (And.intro (@f7n22 k) (And.intro (@f7n23 k) (And.intro (@f7n24 k) (And.intro (@f7n25 k) (And.intro (@f7n26 k) (And.intro (@f7n27 k) (And.intro (@f7n28 k) (@f7n29 k)))))))))
def f7N3 := And.intro (@f7n30 k) (And.intro (@f7n31 k) (And.intro (@f7n32 k) (And.intro (@f7n33 k) (And.intro (@f7n34 k) (And.intro (@f7n35 k) (And.intro (@f7n36 k) (And.intro (@f7n37 k) (And.intro (@f7n38 k) (@f7n39 k)))))))))
def f7N4 := And.intro (@f7n40 k) (And.intro (@f7n41 k) (And.intro (@f7n42 k) (And.intro (@f7n43 k) (And.intro (@f7n44 k) (And.intro (@f7n45 k) (@f7n46 k))))))
noncomputable def f8c0 : Code := bodyOf Tryd.f8
noncomputable def f8c1 : Code := codeAt f8c0 [0]
noncomputable def f8n1 := @n_region (XK k) f8c1 _ _ _ rfl (by kernel_rfl)
noncomputable def f8c2 : Code := codeAt f8c0 [1]
noncomputable def f8c3 : Code := codeAt f8c0 [1, 0]
noncomputable def f8c4 : Code := codeAt f8c0 [1, 0, 0]
noncomputable def f8n4 := @n_region (XK k) f8c4 _ _ _ rfl (by kernel_rfl)
noncomputable def f8c5 : Code := codeAt f8c0 [1, 0, 1]
noncomputable def f8c6 : Code := codeAt f8c0 [1, 0, 1, 0]
noncomputable def f8n6 := @n_region (XK k) f8c6 _ _ _ rfl (by kernel_rfl)
noncomputable def f8c7 : Code := codeAt f8c0 [1, 0, 1, 1]
noncomputable def f8c8 : Code := codeAt f8c0 [1, 0, 1, 1, 0]
noncomputable def f8c9 : Code := codeAt f8c0 [1, 0, 1, 1, 0, 0]
noncomputable def f8n9 := @n_region (XK k) f8c9 _ _ _ rfl (by kernel_rfl)
noncomputable def f8c10 : Code := codeAt f8c0 [1, 0, 1, 1, 0, 1]
theorem f8n10 {ρ : Env} {s : St} {Q : Xit → Env → St → Prop} : wp (XK k) f8c10 ρ s Q = Q .ret ρ s := n_ret (by kernel_rfl)
theorem f8n8 {ρ : Env} {s : St} {Q : Xit → Env → St → Prop} : wp (XK k) f8c8 ρ s Q = wp (XK k) f8c9 ρ s (seqP (XK k) f8c10 Q) := n_seq (by kernel_rfl)
noncomputable def f8c11 : Code := codeAt f8c0 [1, 0, 1, 1, 1]
theorem f8n11 {ρ : Env} {s : St} {Q : Xit → Env → St → Prop} : wp (XK k) f8c11 ρ s Q = Q .normal ρ s := n_skip (by kernel_rfl)
theorem f8n7 {ρ : Env} {s : St} {Q : Xit → Env → St → Prop} : wp (XK k) f8c7 ρ s Q = condP (XK k) (boolOf (evo ρ (.tmp 10))) f8c8 f8c11 ρ s Q := n_cond (by kernel_rfl)
theorem f8n5 {ρ : Env} {s : St} {Q : Xit → Env → St → Prop} : wp (XK k) f8c5 ρ s Q = wp (XK k) f8c6 ρ s (seqP (XK k) f8c7 Q) := n_seq (by kernel_rfl)
theorem f8n3 {ρ : Env} {s : St} {Q : Xit → Env → St → Prop} : wp (XK k) f8c3 ρ s Q = wp (XK k) f8c4 ρ s (seqP (XK k) f8c5 Q) := n_seq (by kernel_rfl)
noncomputable def f8c12 : Code := codeAt f8c0 [1, 1]
noncomputable def f8c13 : Code := codeAt f8c0 [1, 1, 0]
noncomputable def f8n13 := @n_region (XK k) f8c13 _ _ _ rfl (by kernel_rfl)
noncomputable def f8c14 : Code := codeAt f8c0 [1, 1, 1]
theorem f8n14 {ρ : Env} {s : St} {Q : Xit → Env → St → Prop} : wp (XK k) f8c14 ρ s Q = Q .ret ρ s := n_ret (by kernel_rfl)
theorem f8n12 {ρ : Env} {s : St} {Q : Xit → Env → St → Prop} : wp (XK k) f8c12 ρ s Q = wp (XK k) f8c13 ρ s (seqP (XK k) f8c14 Q) := n_seq (by kernel_rfl)
theorem f8n2 {ρ : Env} {s : St} {Q : Xit → Env → St → Prop} : wp (XK k) f8c2 ρ s Q = wp (XK k) f8c3 ρ s (seqP (XK k) f8c12 Q) := n_seq (by kernel_rfl)
theorem f8n0 {ρ : Env} {s : St} {Q : Xit → Env → St → Prop} : wp (XK k) f8c0 ρ s Q = wp (XK k) f8c1 ρ s (seqP (XK k) f8c2 Q) := n_seq (by kernel_rfl)
theorem f8_in (hk : Closed k) {x0 : Value} {s : St} {Q : Value → St → Prop} (h : wp (XK k) f8c0 (Env.of [x0]) s (rtP (XK k) [.tmp 2] Q)) : WC (XK k) 8 [x0] s Q := WC_in (fn := Tryd.f8) (c := f8c0) (n := 13) (hk _ _ _) (by kernel_rfl) (by kernel_rfl) (by kernel_rfl) (by kernel_rfl) rfl h
def f8N0 := And.intro (@f8n0 k) (And.intro (@f8n1 k) (And.intro (@f8n2 k) (And.intro (@f8n3 k) (And.intro (@f8n4 k) (And.intro (@f8n5 k) (And.intro (@f8n6 k) (And.intro (@f8n7 k) (And.intro (@f8n8 k) (@f8n9 k)))))))))
def f8N1 := And.intro (@f8n10 k) (And.intro (@f8n11 k) (And.intro (@f8n12 k) (And.intro (@f8n13 k) (@f8n14 k))))
noncomputable def f10c0 : Code := bodyOf Tryd.f10
noncomputable def f10c1 : Code := codeAt f10c0 [0]
noncomputable def f10n1 := @n_region (XK k) f10c1 _ _ _ rfl (by kernel_rfl)
noncomputable def f10c2 : Code := codeAt f10c0 [1]
noncomputable def f10c3 : Code := codeAt f10c0 [1, 0]
noncomputable def f10c4 : Code := codeAt f10c0 [1, 0, 0]
noncomputable def f10n4 := @n_region (XK k) f10c4 _ _ _ rfl (by kernel_rfl)
noncomputable def f10c5 : Code := codeAt f10c0 [1, 0, 1]
noncomputable def f10c6 : Code := codeAt f10c0 [1, 0, 1, 0]
noncomputable def f10c7 : Code := codeAt f10c0 [1, 0, 1, 0, 0]
noncomputable def f10n7 := @n_region (XK k) f10c7 _ _ _ rfl (by kernel_rfl)
noncomputable def f10c8 : Code := codeAt f10c0 [1, 0, 1, 0, 1]
theorem f10n8 {ρ : Env} {s : St} {Q : Xit → Env → St → Prop} : wp (XK k) f10c8 ρ s Q = Q .ret ρ s := n_ret (by kernel_rfl)
theorem f10n6 {ρ : Env} {s : St} {Q : Xit → Env → St → Prop} : wp (XK k) f10c6 ρ s Q = wp (XK k) f10c7 ρ s (seqP (XK k) f10c8 Q) := n_seq (by kernel_rfl)
noncomputable def f10c9 : Code := codeAt f10c0 [1, 0, 1, 1]
theorem f10n9 {ρ : Env} {s : St} {Q : Xit → Env → St → Prop} : wp (XK k) f10c9 ρ s Q = Q .normal ρ s := n_skip (by kernel_rfl)
theorem f10n5 {ρ : Env} {s : St} {Q : Xit → Env → St → Prop} : wp (XK k) f10c5 ρ s Q = condP (XK k) (boolOf (evo ρ (.tmp 10))) f10c6 f10c9 ρ s Q := n_cond (by kernel_rfl)
theorem f10n3 {ρ : Env} {s : St} {Q : Xit → Env → St → Prop} : wp (XK k) f10c3 ρ s Q = wp (XK k) f10c4 ρ s (seqP (XK k) f10c5 Q) := n_seq (by kernel_rfl)
noncomputable def f10c10 : Code := codeAt f10c0 [1, 1]
noncomputable def f10c11 : Code := codeAt f10c0 [1, 1, 0]
noncomputable def f10c12 : Code := codeAt f10c0 [1, 1, 0, 0]
noncomputable def f10n12 := @n_region (XK k) f10c12 _ _ _ rfl (by kernel_rfl)
noncomputable def f10c13 : Code := codeAt f10c0 [1, 1, 0, 1]
noncomputable def f10c14 : Code := codeAt f10c0 [1, 1, 0, 1, 0]
noncomputable def f10c15 : Code := codeAt f10c0 [1, 1, 0, 1, 0, 0]
noncomputable def f10n15 := @n_region (XK k) f10c15 _ _ _ rfl (by kernel_rfl)
noncomputable def f10c16 : Code := codeAt f10c0 [1, 1, 0, 1, 0, 1]
theorem f10n16 {ρ : Env} {s : St} {Q : Xit → Env → St → Prop} : wp (XK k) f10c16 ρ s Q = Q .ret ρ s := n_ret (by kernel_rfl)
theorem f10n14 {ρ : Env} {s : St} {Q : Xit → Env → St → Prop} : wp (XK k) f10c14 ρ s Q = wp (XK k) f10c15 ρ s (seqP (XK k) f10c16 Q) := n_seq (by kernel_rfl)
noncomputable def f10c17 : Code := codeAt f10c0 [1, 1, 0, 1, 1]
theorem f10n17 {ρ : Env} {s : St} {Q : Xit → Env → St → Prop} : wp (XK k) f10c17 ρ s Q = Q .normal ρ s := n_skip (by kernel_rfl)
theorem f10n13 {ρ : Env} {s : St} {Q : Xit → Env → St → Prop} : wp (XK k) f10c13 ρ s Q = condP (XK k) (boolOf (evo ρ (.tmp 12))) f10c14 f10c17 ρ s Q := n_cond (by kernel_rfl)
theorem f10n11 {ρ : Env} {s : St} {Q : Xit → Env → St → Prop} : wp (XK k) f10c11 ρ s Q = wp (XK k) f10c12 ρ s (seqP (XK k) f10c13 Q) := n_seq (by kernel_rfl)
noncomputable def f10c18 : Code := codeAt f10c0 [1, 1, 1]
noncomputable def f10c19 : Code := codeAt f10c0 [1, 1, 1, 0]
noncomputable def f10n19 := @n_region (XK k) f10c19 _ _ _ rfl (by kernel_rfl)
noncomputable def f10c20 : Code := codeAt f10c0 [1, 1, 1, 1]
noncomputable def f10c21 : Code := codeAt f10c0 [1, 1, 1, 1, 0]
noncomputable def f10c22 : Code := codeAt f10c0 [1, 1, 1, 1, 0, 0]
noncomputable def f10n22 := @n_region (XK k) f10c22 _ _ _ rfl (by kernel_rfl)
noncomputable def f10c23 : Code := codeAt f10c0 [1, 1, 1, 1, 0, 1]
noncomputable def f10c24 : Code := codeAt f10c0 [1, 1, 1, 1, 0, 1, 0]
noncomputable def f10n24 := @n_region (XK k) f10c24 _ _ _ rfl (by kernel_rfl)
noncomputable def f10c25 : Code := codeAt f10c0 [1, 1, 1, 1, 0, 1, 1]
noncomputable def f10c26 : Code := codeAt f10c0 [1, 1, 1, 1, 0, 1, 1, 0]
noncomputable def f10c27 : Code := codeAt f10c0 [1, 1, 1, 1, 0, 1, 1, 0, 0]
noncomputable def f10n27 := @n_region (XK k) f10c27 _ _ _ rfl (by kernel_rfl)
noncomputable def f10c28 : Code := codeAt f10c0 [1, 1, 1, 1, 0, 1, 1, 0, 1]
theorem f10n28 {ρ : Env} {s : St} {Q : Xit → Env → St → Prop} : wp (XK k) f10c28 ρ s Q = Q .ret ρ s := n_ret (by kernel_rfl)
theorem f10n26 {ρ : Env} {s : St} {Q : Xit → Env → St → Prop} : wp (XK k) f10c26 ρ s Q = wp (XK k) f10c27 ρ s (seqP (XK k) f10c28 Q) := n_seq (by kernel_rfl)
noncomputable def f10c29 : Code := codeAt f10c0 [1, 1, 1, 1, 0, 1, 1, 1]
theorem f10n29 {ρ : Env} {s : St} {Q : Xit → Env → St → Prop} : wp (XK k) f10c29 ρ s Q = Q .normal ρ s := n_skip (by kernel_rfl)
theorem f10n25 {ρ : Env} {s : St} {Q : Xit → Env → St → Prop} : wp (XK k) f10c25 ρ s Q = condP (XK k) (boolOf (evo ρ (.tmp 18))) f10c26 f10c29 ρ s Q := n_cond (by kernel_rfl)
theorem f10n23 {ρ : Env} {s : St} {Q : Xit → Env → St → Prop} : wp (XK k) f10c23 ρ s Q = wp (XK k) f10c24 ρ s (seqP (XK k) f10c25 Q) := n_seq (by kernel_rfl)
theorem f10n21 {ρ : Env} {s : St} {Q : Xit → Env → St → Prop} : wp (XK k) f10c21 ρ s Q = wp (XK k) f10c22 ρ s (seqP (XK k) f10c23 Q) := n_seq (by kernel_rfl)
noncomputable def f10c30 : Code := codeAt f10c0 [1, 1, 1, 1, 1]
noncomputable def f10c31 : Code := codeAt f10c0 [1, 1, 1, 1, 1, 0]
noncomputable def f10c32 : Code := codeAt f10c0 [1, 1, 1, 1, 1, 0, 0]
noncomputable def f10n32 := @n_region (XK k) f10c32 _ _ _ rfl (by kernel_rfl)
noncomputable def f10c33 : Code := codeAt f10c0 [1, 1, 1, 1, 1, 0, 1]
noncomputable def f10c34 : Code := codeAt f10c0 [1, 1, 1, 1, 1, 0, 1, 0]
noncomputable def f10n34 := @n_region (XK k) f10c34 _ _ _ rfl (by kernel_rfl)
noncomputable def f10c35 : Code := codeAt f10c0 [1, 1, 1, 1, 1, 0, 1, 1]
noncomputable def f10c36 : Code := codeAt f10c0 [1, 1, 1, 1, 1, 0, 1, 1, 0]
noncomputable def f10c37 : Code := codeAt f10c0 [1, 1, 1, 1, 1, 0, 1, 1, 0, 0]
noncomputable def f10n37 := @n_region (XK k) f10c37 _ _ _ rfl (by kernel_rfl)
noncomputable def f10c38 : Code := codeAt f10c0 [1, 1, 1, 1, 1, 0, 1, 1, 0, 1]
theorem f10n38 {ρ : Env} {s : St} {Q : Xit → Env → St → Prop} : wp (XK k) f10c38 ρ s Q = Q .ret ρ s := n_ret (by kernel_rfl)
theorem f10n36 {ρ : Env} {s : St} {Q : Xit → Env → St → Prop} : wp (XK k) f10c36 ρ s Q = wp (XK k) f10c37 ρ s (seqP (XK k) f10c38 Q) := n_seq (by kernel_rfl)
noncomputable def f10c39 : Code := codeAt f10c0 [1, 1, 1, 1, 1, 0, 1, 1, 1]
theorem f10n39 {ρ : Env} {s : St} {Q : Xit → Env → St → Prop} : wp (XK k) f10c39 ρ s Q = Q .normal ρ s := n_skip (by kernel_rfl)
theorem f10n35 {ρ : Env} {s : St} {Q : Xit → Env → St → Prop} : wp (XK k) f10c35 ρ s Q = condP (XK k) (boolOf (evo ρ (.tmp 25))) f10c36 f10c39 ρ s Q := n_cond (by kernel_rfl)
theorem f10n33 {ρ : Env} {s : St} {Q : Xit → Env → St → Prop} : wp (XK k) f10c33 ρ s Q = wp (XK k) f10c34 ρ s (seqP (XK k) f10c35 Q) := n_seq (by kernel_rfl)
theorem f10n31 {ρ : Env} {s : St} {Q : Xit → Env → St → Prop} : wp (XK k) f10c31 ρ s Q = wp (XK k) f10c32 ρ s (seqP (XK k) f10c33 Q) := n_seq (by kernel_rfl)
noncomputable def f10c40 : Code := codeAt f10c0 [1, 1, 1, 1, 1, 1]
noncomputable def f10c41 : Code := codeAt f10c0 [1, 1, 1, 1, 1, 1, 0]
noncomputable def f10c42 : Code := codeAt f10c0 [1, 1, 1, 1, 1, 1, 0, 0]
noncomputable def f10n42 := @n_region (XK k) f10c42 _ _ _ rfl (by kernel_rfl)
noncomputable def f10c43 : Code := codeAt f10c0 [1, 1, 1, 1, 1, 1, 0, 1]
noncomputable def f10c44 : Code := codeAt f10c0 [1, 1, 1, 1, 1, 1, 0, 1, 0]
noncomputable def f10n44 := @n_region (XK k) f10c44 _ _ _ rfl (by kernel_rfl)
noncomputable def f10c45 : Code := codeAt f10c0 [1, 1, 1, 1, 1, 1, 0, 1, 1]
noncomputable def f10c46 : Code := codeAt f10c0 [1, 1, 1, 1, 1, 1, 0, 1, 1, 0]
noncomputable def f10c47 : Code := codeAt f10c0 [1, 1, 1, 1, 1, 1, 0, 1, 1, 0, 0]
noncomputable def f10n47 := @n_region (XK k) f10c47 _ _ _ rfl (by kernel_rfl)
noncomputable def f10c48 : Code := codeAt f10c0 [1, 1, 1, 1, 1, 1, 0, 1, 1, 0, 1]
theorem f10n48 {ρ : Env} {s : St} {Q : Xit → Env → St → Prop} : wp (XK k) f10c48 ρ s Q = Q .ret ρ s := n_ret (by kernel_rfl)
theorem f10n46 {ρ : Env} {s : St} {Q : Xit → Env → St → Prop} : wp (XK k) f10c46 ρ s Q = wp (XK k) f10c47 ρ s (seqP (XK k) f10c48 Q) := n_seq (by kernel_rfl)
noncomputable def f10c49 : Code := codeAt f10c0 [1, 1, 1, 1, 1, 1, 0, 1, 1, 1]
theorem f10n49 {ρ : Env} {s : St} {Q : Xit → Env → St → Prop} : wp (XK k) f10c49 ρ s Q = Q .normal ρ s := n_skip (by kernel_rfl)
theorem f10n45 {ρ : Env} {s : St} {Q : Xit → Env → St → Prop} : wp (XK k) f10c45 ρ s Q = condP (XK k) (boolOf (evo ρ (.tmp 29))) f10c46 f10c49 ρ s Q := n_cond (by kernel_rfl)
theorem f10n43 {ρ : Env} {s : St} {Q : Xit → Env → St → Prop} : wp (XK k) f10c43 ρ s Q = wp (XK k) f10c44 ρ s (seqP (XK k) f10c45 Q) := n_seq (by kernel_rfl)
theorem f10n41 {ρ : Env} {s : St} {Q : Xit → Env → St → Prop} : wp (XK k) f10c41 ρ s Q = wp (XK k) f10c42 ρ s (seqP (XK k) f10c43 Q) := n_seq (by kernel_rfl)
noncomputable def f10c50 : Code := codeAt f10c0 [1, 1, 1, 1, 1, 1, 1]
noncomputable def f10c51 : Code := codeAt f10c0 [1, 1, 1, 1, 1, 1, 1, 0]
noncomputable def f10n51 := @n_region (XK k) f10c51 _ _ _ rfl (by kernel_rfl)
noncomputable def f10c52 : Code := codeAt f10c0 [1, 1, 1, 1, 1, 1, 1, 1]
theorem f10n52 {ρ : Env} {s : St} {Q : Xit → Env → St → Prop} : wp (XK k) f10c52 ρ s Q = Q .ret ρ s := n_ret (by kernel_rfl)
theorem f10n50 {ρ : Env} {s : St} {Q : Xit → Env → St → Prop} : wp (XK k) f10c50 ρ s Q = wp (XK k) f10c51 ρ s (seqP (XK k) f10c52 Q) := n_seq (by kernel_rfl)
theorem f10n40 {ρ : Env} {s : St} {Q : Xit → Env → St → Prop} : wp (XK k) f10c40 ρ s Q = wp (XK k) f10c41 ρ s (seqP (XK k) f10c50 Q) := n_seq (by kernel_rfl)
theorem f10n30 {ρ : Env} {s : St} {Q : Xit → Env → St → Prop} : wp (XK k) f10c30 ρ s Q = wp (XK k) f10c31 ρ s (seqP (XK k) f10c40 Q) := n_seq (by kernel_rfl)
theorem f10n20 {ρ : Env} {s : St} {Q : Xit → Env → St → Prop} : wp (XK k) f10c20 ρ s Q = wp (XK k) f10c21 ρ s (seqP (XK k) f10c30 Q) := n_seq (by kernel_rfl)
theorem f10n18 {ρ : Env} {s : St} {Q : Xit → Env → St → Prop} : wp (XK k) f10c18 ρ s Q = wp (XK k) f10c19 ρ s (seqP (XK k) f10c20 Q) := n_seq (by kernel_rfl)
theorem f10n10 {ρ : Env} {s : St} {Q : Xit → Env → St → Prop} : wp (XK k) f10c10 ρ s Q = wp (XK k) f10c11 ρ s (seqP (XK k) f10c18 Q) := n_seq (by kernel_rfl)
theorem f10n2 {ρ : Env} {s : St} {Q : Xit → Env → St → Prop} : wp (XK k) f10c2 ρ s Q = wp (XK k) f10c3 ρ s (seqP (XK k) f10c10 Q) := n_seq (by kernel_rfl)
theorem f10n0 {ρ : Env} {s : St} {Q : Xit → Env → St → Prop} : wp (XK k) f10c0 ρ s Q = wp (XK k) f10c1 ρ s (seqP (XK k) f10c2 Q) := n_seq (by kernel_rfl)
theorem f10_in (hk : Closed k) {x0 : Value} {s : St} {Q : Value → St → Prop} (h : wp (XK k) f10c0 (Env.of [x0]) s (rtP (XK k) [.tmp 2] Q)) : WC (XK k) 10 [x0] s Q := WC_in (fn := Tryd.f10) (c := f10c0) (n := 31) (hk _ _ _) (by kernel_rfl) (by kernel_rfl) (by kernel_rfl) (by kernel_rfl) rfl h
def f10N0 := And.intro (@f10n0 k) (And.intro (@f10n1 k) (And.intro (@f10n2 k) (And.intro (@f10n3 k) (And.intro (@f10n4 k) (And.intro (@f10n5 k) (And.intro (@f10n6 k) (And.intro (@f10n7 k) (And.intro (@f10n8 k) (@f10n9 k)))))))))
def f10N1 := And.intro (@f10n10 k) (And.intro (@f10n11 k) (And.intro (@f10n12 k) (And.intro (@f10n13 k) (And.intro (@f10n14 k) (And.intro (@f10n15 k) (And.intro (@f10n16 k) (And.intro (@f10n17 k) (And.intro (@f10n18 k) (@f10n19 k)))))))))
def f10N2 := And.intro (@f10n20 k) (And.intro (@f10n21 k) (And.intro (@f10n22 k) (And.intro (@f10n23 k) (And.intro (@f10n24 k) (And.intro (@f10n25 k) (And.intro (@f10n26 k) (And.intro (@f10n27 k) (And.intro (@f10n28 k) (@f10n29 k)))))))))
def f10N3 := And.intro (@f10n30 k) (And.intro (@f10n31 k) (And.intro (@f10n32 k) (And.intro (@f10n33 k) (And.intro (@f10n34 k) (And.intro (@f10n35 k) (And.intro (@f10n36 k) (And.intro (@f10n37 k) (And.intro (@f10n38 k) (@f10n39 k)))))))))
def f10N4 := And.intro (@f10n40 k) (And.intro (@f10n41 k) (And.intro (@f10n42 k) (And.intro (@f10n43 k) (And.intro (@f10n44 k) (And.intro (@f10n45 k) (And.intro (@f10n46 k) (And.intro (@f10n47 k) (And.intro (@f10n48 k) (@f10n49 k)))))))))
def f10N5 := And.intro (@f10n50 k) (And.intro (@f10n51 k) (@f10n52 k))
noncomputable def f11c0 : Code := bodyOf Tryd.f11
noncomputable def f11c1 : Code := codeAt f11c0 [0]
noncomputable def f11n1 := @n_region (XK k) f11c1 _ _ _ rfl (by kernel_rfl)
noncomputable def f11c2 : Code := codeAt f11c0 [1]
noncomputable def f11c3 : Code := codeAt f11c0 [1, 0]
noncomputable def f11c4 : Code := codeAt f11c0 [1, 0, 0]
noncomputable def f11n4 := @n_region (XK k) f11c4 _ _ _ rfl (by kernel_rfl)
noncomputable def f11c5 : Code := codeAt f11c0 [1, 0, 1]
noncomputable def f11c6 : Code := codeAt f11c0 [1, 0, 1, 0]
noncomputable def f11c7 : Code := codeAt f11c0 [1, 0, 1, 0, 0]
noncomputable def f11n7 := @n_region (XK k) f11c7 _ _ _ rfl (by kernel_rfl)
noncomputable def f11c8 : Code := codeAt f11c0 [1, 0, 1, 0, 1]
noncomputable def f11c9 : Code := codeAt f11c0 [1, 0, 1, 0, 1, 0]
noncomputable def f11c10 : Code := codeAt f11c0 [1, 0, 1, 0, 1, 0, 0]
noncomputable def f11n10 := @n_region (XK k) f11c10 _ _ _ rfl (by kernel_rfl)
noncomputable def f11c11 : Code := codeAt f11c0 [1, 0, 1, 0, 1, 0, 1]
theorem f11n11 {ρ : Env} {s : St} {Q : Xit → Env → St → Prop} : wp (XK k) f11c11 ρ s Q = Q .ret ρ s := n_ret (by kernel_rfl)
theorem f11n9 {ρ : Env} {s : St} {Q : Xit → Env → St → Prop} : wp (XK k) f11c9 ρ s Q = wp (XK k) f11c10 ρ s (seqP (XK k) f11c11 Q) := n_seq (by kernel_rfl)
noncomputable def f11c12 : Code := codeAt f11c0 [1, 0, 1, 0, 1, 1]
noncomputable def f11c13 : Code := codeAt f11c0 [1, 0, 1, 0, 1, 1, 0]
noncomputable def f11c14 : Code := codeAt f11c0 [1, 0, 1, 0, 1, 1, 0, 0]
noncomputable def f11n14 := @n_region (XK k) f11c14 _ _ _ rfl (by kernel_rfl)
noncomputable def f11c15 : Code := codeAt f11c0 [1, 0, 1, 0, 1, 1, 0, 1]
noncomputable def f11c16 : Code := codeAt f11c0 [1, 0, 1, 0, 1, 1, 0, 1, 0]
theorem f11n16 {ρ : Env} {s : St} {Q : Xit → Env → St → Prop} : wp (XK k) f11c16 ρ s Q = Q .normal ρ s := n_skip (by kernel_rfl)
noncomputable def f11c17 : Code := codeAt f11c0 [1, 0, 1, 0, 1, 1, 0, 1, 1]
noncomputable def f11n17 := @n_region (XK k) f11c17 _ _ _ rfl (by kernel_rfl)
theorem f11n15 {ρ : Env} {s : St} {Q : Xit → Env → St → Prop} : wp (XK k) f11c15 ρ s Q = condP (XK k) (boolOf (evo ρ (.tmp 7))) f11c16 f11c17 ρ s Q := n_cond (by kernel_rfl)
theorem f11n13 {ρ : Env} {s : St} {Q : Xit → Env → St → Prop} : wp (XK k) f11c13 ρ s Q = wp (XK k) f11c14 ρ s (seqP (XK k) f11c15 Q) := n_seq (by kernel_rfl)
noncomputable def f11c18 : Code := codeAt f11c0 [1, 0, 1, 0, 1, 1, 1]
noncomputable def f11c19 : Code := codeAt f11c0 [1, 0, 1, 0, 1, 1, 1, 0]
noncomputable def f11c20 : Code := codeAt f11c0 [1, 0, 1, 0, 1, 1, 1, 0, 0]
noncomputable def f11n20 := @n_region (XK k) f11c20 _ _ _ rfl (by kernel_rfl)
noncomputable def f11c21 : Code := codeAt f11c0 [1, 0, 1, 0, 1, 1, 1, 0, 1]
theorem f11n21 {ρ : Env} {s : St} {Q : Xit → Env → St → Prop} : wp (XK k) f11c21 ρ s Q = Q .ret ρ s := n_ret (by kernel_rfl)
theorem f11n19 {ρ : Env} {s : St} {Q : Xit → Env → St → Prop} : wp (XK k) f11c19 ρ s Q = wp (XK k) f11c20 ρ s (seqP (XK k) f11c21 Q) := n_seq (by kernel_rfl)
noncomputable def f11c22 : Code := codeAt f11c0 [1, 0, 1, 0, 1, 1, 1, 1]
theorem f11n22 {ρ : Env} {s : St} {Q : Xit → Env → St → Prop} : wp (XK k) f11c22 ρ s Q = Q .normal ρ s := n_skip (by kernel_rfl)
theorem f11n18 {ρ : Env} {s : St} {Q : Xit → Env → St → Prop} : wp (XK k) f11c18 ρ s Q = condP (XK k) (boolOf (evo ρ (.tmp 7))) f11c19 f11c22 ρ s Q := n_cond (by kernel_rfl)
theorem f11n12 {ρ : Env} {s : St} {Q : Xit → Env → St → Prop} : wp (XK k) f11c12 ρ s Q = wp (XK k) f11c13 ρ s (seqP (XK k) f11c18 Q) := n_seq (by kernel_rfl)
theorem f11n8 {ρ : Env} {s : St} {Q : Xit → Env → St → Prop} : wp (XK k) f11c8 ρ s Q = condP (XK k) (boolOf (evo ρ (.tmp 5))) f11c9 f11c12 ρ s Q := n_cond (by kernel_rfl)
theorem f11n6 {ρ : Env} {s : St} {Q : Xit → Env → St → Prop} : wp (XK k) f11c6 ρ s Q = wp (XK k) f11c7 ρ s (seqP (XK k) f11c8 Q) := n_seq (by kernel_rfl)
theorem f11n5 {ρ : Env} {s : St} {Q : Xit → Env → St → Prop} : wp (XK k) f11c5 ρ s Q = wp (XK k) f11c6 ρ s (blockQ 0 Q) := n_block (by kernel_rfl)
theorem f11n3 {ρ : Env} {s : St} {Q : Xit → Env → St → Prop} : wp (XK k) f11c3 ρ s Q = wp (XK k) f11c4 ρ s (seqP (XK k) f11c5 Q) := n_seq (by kernel_rfl)
noncomputable def f11c23 : Code := codeAt f11c0 [1, 1]
noncomputable def f11c24 : Code := codeAt f11c0 [1, 1, 0]
noncomputable def f11n24 := @n_region (XK k) f11c24 _ _ _ rfl (by kernel_rfl)
noncomputable def f11c25 : Code := codeAt f11c0 [1, 1, 1]
theorem f11n25 {ρ : Env} {s : St} {Q : Xit → Env → St → Prop} : wp (XK k) f11c25 ρ s Q = Q .ret ρ s := n_ret (by kernel_rfl)
theorem f11n23 {ρ : Env} {s : St} {Q : Xit → Env → St → Prop} : wp (XK k) f11c23 ρ s Q = wp (XK k) f11c24 ρ s (seqP (XK k) f11c25 Q) := n_seq (by kernel_rfl)
theorem f11n2 {ρ : Env} {s : St} {Q : Xit → Env → St → Prop} : wp (XK k) f11c2 ρ s Q = wp (XK k) f11c3 ρ s (seqP (XK k) f11c23 Q) := n_seq (by kernel_rfl)
theorem f11n0 {ρ : Env} {s : St} {Q : Xit → Env → St → Prop} : wp (XK k) f11c0 ρ s Q = wp (XK k) f11c1 ρ s (seqP (XK k) f11c2 Q) := n_seq (by kernel_rfl)
theorem f11_in (hk : Closed k) {x0 : Value} {s : St} {Q : Value → St → Prop} (h : wp (XK k) f11c0 (Env.of [x0]) s (rtP (XK k) [.tmp 2] Q)) : WC (XK k) 11 [x0] s Q := WC_in (fn := Tryd.f11) (c := f11c0) (n := 10) (hk _ _ _) (by kernel_rfl) (by kernel_rfl) (by kernel_rfl) (by kernel_rfl) rfl h
def f11N0 := And.intro (@f11n0 k) (And.intro (@f11n1 k) (And.intro (@f11n2 k) (And.intro (@f11n3 k) (And.intro (@f11n4 k) (And.intro (@f11n5 k) (And.intro (@f11n6 k) (And.intro (@f11n7 k) (And.intro (@f11n8 k) (@f11n9 k)))))))))
def f11N1 := And.intro (@f11n10 k) (And.intro (@f11n11 k) (And.intro (@f11n12 k) (And.intro (@f11n13 k) (And.intro (@f11n14 k) (And.intro (@f11n15 k) (And.intro (@f11n16 k) (And.intro (@f11n17 k) (And.intro (@f11n18 k) (@f11n19 k)))))))))
def f11N2 := And.intro (@f11n20 k) (And.intro (@f11n21 k) (And.intro (@f11n22 k) (And.intro (@f11n23 k) (And.intro (@f11n24 k) (@f11n25 k)))))
noncomputable def f12c0 : Code := bodyOf Tryd.f12
noncomputable def f12c1 : Code := codeAt f12c0 [0]
noncomputable def f12n1 := @n_region (XK k) f12c1 _ _ _ rfl (by kernel_rfl)
noncomputable def f12c2 : Code := codeAt f12c0 [1]
noncomputable def f12c3 : Code := codeAt f12c0 [1, 0]
noncomputable def f12n3 := @n_region (XK k) f12c3 _ _ _ rfl (by kernel_rfl)
noncomputable def f12c4 : Code := codeAt f12c0 [1, 1]
noncomputable def f12c5 : Code := codeAt f12c0 [1, 1, 0]
noncomputable def f12c6 : Code := codeAt f12c0 [1, 1, 0, 0]
noncomputable def f12n6 := @n_region (XK k) f12c6 _ _ _ rfl (by kernel_rfl)
noncomputable def f12c7 : Code := codeAt f12c0 [1, 1, 0, 1]
noncomputable def f12c8 : Code := codeAt f12c0 [1, 1, 0, 1, 0]
noncomputable def f12c9 : Code := codeAt f12c0 [1, 1, 0, 1, 0, 0]
noncomputable def f12n9 := @n_region (XK k) f12c9 _ _ _ rfl (by kernel_rfl)
noncomputable def f12c10 : Code := codeAt f12c0 [1, 1, 0, 1, 0, 1]
theorem f12n10 {ρ : Env} {s : St} {Q : Xit → Env → St → Prop} : wp (XK k) f12c10 ρ s Q = Q .ret ρ s := n_ret (by kernel_rfl)
theorem f12n8 {ρ : Env} {s : St} {Q : Xit → Env → St → Prop} : wp (XK k) f12c8 ρ s Q = wp (XK k) f12c9 ρ s (seqP (XK k) f12c10 Q) := n_seq (by kernel_rfl)
noncomputable def f12c11 : Code := codeAt f12c0 [1, 1, 0, 1, 1]
theorem f12n11 {ρ : Env} {s : St} {Q : Xit → Env → St → Prop} : wp (XK k) f12c11 ρ s Q = Q .normal ρ s := n_skip (by kernel_rfl)
theorem f12n7 {ρ : Env} {s : St} {Q : Xit → Env → St → Prop} : wp (XK k) f12c7 ρ s Q = condP (XK k) (boolOf (evo ρ (.tmp 7))) f12c8 f12c11 ρ s Q := n_cond (by kernel_rfl)
theorem f12n5 {ρ : Env} {s : St} {Q : Xit → Env → St → Prop} : wp (XK k) f12c5 ρ s Q = wp (XK k) f12c6 ρ s (seqP (XK k) f12c7 Q) := n_seq (by kernel_rfl)
noncomputable def f12c12 : Code := codeAt f12c0 [1, 1, 1]
noncomputable def f12c13 : Code := codeAt f12c0 [1, 1, 1, 0]
noncomputable def f12c14 : Code := codeAt f12c0 [1, 1, 1, 0, 0]
noncomputable def f12n14 := @n_region (XK k) f12c14 _ _ _ rfl (by kernel_rfl)
noncomputable def f12c15 : Code := codeAt f12c0 [1, 1, 1, 0, 1]
noncomputable def f12c16 : Code := codeAt f12c0 [1, 1, 1, 0, 1, 0]
noncomputable def f12c17 : Code := codeAt f12c0 [1, 1, 1, 0, 1, 0, 0]
noncomputable def f12n17 := @n_region (XK k) f12c17 _ _ _ rfl (by kernel_rfl)
noncomputable def f12c18 : Code := codeAt f12c0 [1, 1, 1, 0, 1, 0, 1]
theorem f12n18 {ρ : Env} {s : St} {Q : Xit → Env → St → Prop} : wp (XK k) f12c18 ρ s Q = Q .ret ρ s := n_ret (by kernel_rfl)
theorem f12n16 {ρ : Env} {s : St} {Q : Xit → Env → St → Prop} : wp (XK k) f12c16 ρ s Q = wp (XK k) f12c17 ρ s (seqP (XK k) f12c18 Q) := n_seq (by kernel_rfl)
noncomputable def f12c19 : Code := codeAt f12c0 [1, 1, 1, 0, 1, 1]
theorem f12n19 {ρ : Env} {s : St} {Q : Xit → Env → St → Prop} : wp (XK k) f12c19 ρ s Q = Q .normal ρ s := n_skip (by kernel_rfl)
theorem f12n15 {ρ : Env} {s : St} {Q : Xit → Env → St → Prop} : wp (XK k) f12c15 ρ s Q = condP (XK k) (boolOf (evo ρ (.tmp 13))) f12c16 f12c19 ρ s Q := n_cond (by kernel_rfl)
theorem f12n13 {ρ : Env} {s : St} {Q : Xit → Env → St → Prop} : wp (XK k) f12c13 ρ s Q = wp (XK k) f12c14 ρ s (seqP (XK k) f12c15 Q) := n_seq (by kernel_rfl)
noncomputable def f12c20 : Code := codeAt f12c0 [1, 1, 1, 1]
noncomputable def f12c21 : Code := codeAt f12c0 [1, 1, 1, 1, 0]
noncomputable def f12n21 := @n_region (XK k) f12c21 _ _ _ rfl (by kernel_rfl)
noncomputable def f12c22 : Code := codeAt f12c0 [1, 1, 1, 1, 1]
theorem f12n22 {ρ : Env} {s : St} {Q : Xit → Env → St → Prop} : wp (XK k) f12c22 ρ s Q = Q .ret ρ s := n_ret (by kernel_rfl)
theorem f12n20 {ρ : Env} {s : St} {Q : Xit → Env → St → Prop} : wp (XK k) f12c20 ρ s Q = wp (XK k) f12c21 ρ s (seqP (XK k) f12c22 Q) := n_seq (by kernel_rfl)
theorem f12n12 {ρ : Env} {s : St} {Q : Xit → Env → St → Prop} : wp (XK k) f12c12 ρ s Q = wp (XK k) f12c13 ρ s (seqP (XK k) f12c20 Q) := n_seq (by kernel_rfl)
theorem f12n4 {ρ : Env} {s : St} {Q : Xit → Env → St → Prop} : wp (XK k) f12c4 ρ s Q = wp (XK k) f12c5 ρ s (seqP (XK k) f12c12 Q) := n_seq (by kernel_rfl)
theorem f12n2 {ρ : Env} {s : St} {Q : Xit → Env → St → Prop} : wp (XK k) f12c2 ρ s Q = wp (XK k) f12c3 ρ s (seqP (XK k) f12c4 Q) := n_seq (by kernel_rfl)
theorem f12n0 {ρ : Env} {s : St} {Q : Xit → Env → St → Prop} : wp (XK k) f12c0 ρ s Q = wp (XK k) f12c1 ρ s (seqP (XK k) f12c2 Q) := n_seq (by kernel_rfl)
theorem f12_in (hk : Closed k) {x0 : Value} {s : St} {Q : Value → St → Prop} (h : wp (XK k) f12c0 (Env.of [x0]) s (rtP (XK k) [.tmp 2] Q)) : WC (XK k) 12 [x0] s Q := WC_in (fn := Tryd.f12) (c := f12c0) (n := 14) (hk _ _ _) (by kernel_rfl) (by kernel_rfl) (by kernel_rfl) (by kernel_rfl) rfl h
def f12N0 := And.intro (@f12n0 k) (And.intro (@f12n1 k) (And.intro (@f12n2 k) (And.intro (@f12n3 k) (And.intro (@f12n4 k) (And.intro (@f12n5 k) (And.intro (@f12n6 k) (And.intro (@f12n7 k) (And.intro (@f12n8 k) (@f12n9 k)))))))))
def f12N1 := And.intro (@f12n10 k) (And.intro (@f12n11 k) (And.intro (@f12n12 k) (And.intro (@f12n13 k) (And.intro (@f12n14 k) (And.intro (@f12n15 k) (And.intro (@f12n16 k) (And.intro (@f12n17 k) (And.intro (@f12n18 k) (@f12n19 k)))))))))
def f12N2 := And.intro (@f12n20 k) (And.intro (@f12n21 k) (@f12n22 k))
noncomputable def f13c0 : Code := bodyOf Tryd.f13
noncomputable def f13c1 : Code := codeAt f13c0 [0]
noncomputable def f13n1 := @n_region (XK k) f13c1 _ _ _ rfl (by kernel_rfl)
noncomputable def f13c2 : Code := codeAt f13c0 [1]
noncomputable def f13c3 : Code := codeAt f13c0 [1, 0]
noncomputable def f13c4 : Code := codeAt f13c0 [1, 0, 0]
noncomputable def f13n4 := @n_region (XK k) f13c4 _ _ _ rfl (by kernel_rfl)
noncomputable def f13c5 : Code := codeAt f13c0 [1, 0, 1]
noncomputable def f13c6 : Code := codeAt f13c0 [1, 0, 1, 0]
noncomputable def f13c7 : Code := codeAt f13c0 [1, 0, 1, 0, 0]
noncomputable def f13c8 : Code := codeAt f13c0 [1, 0, 1, 0, 0, 0]
noncomputable def f13n8 := @n_region (XK k) f13c8 _ _ _ rfl (by kernel_rfl)
noncomputable def f13c9 : Code := codeAt f13c0 [1, 0, 1, 0, 0, 1]
noncomputable def f13c10 : Code := codeAt f13c0 [1, 0, 1, 0, 0, 1, 0]
theorem f13n10 {ρ : Env} {s : St} {Q : Xit → Env → St → Prop} : wp (XK k) f13c10 ρ s Q = Q .normal ρ s := n_skip (by kernel_rfl)
noncomputable def f13c11 : Code := codeAt f13c0 [1, 0, 1, 0, 0, 1, 1]
noncomputable def f13c12 : Code := codeAt f13c0 [1, 0, 1, 0, 0, 1, 1, 0]
noncomputable def f13n12 := @n_region (XK k) f13c12 _ _ _ rfl (by kernel_rfl)
noncomputable def f13c13 : Code := codeAt f13c0 [1, 0, 1, 0, 0, 1, 1, 1]
noncomputable def f13c14 : Code := codeAt f13c0 [1, 0, 1, 0, 0, 1, 1, 1, 0]
theorem f13n14 {ρ : Env} {s : St} {Q : Xit → Env → St → Prop} : wp (XK k) f13c14 ρ s Q = Q .normal ρ s := n_skip (by kernel_rfl)
noncomputable def f13c15 : Code := codeAt f13c0 [1, 0, 1, 0, 0, 1, 1, 1, 1]
noncomputable def f13c16 : Code := codeAt f13c0 [1, 0, 1, 0, 0, 1, 1, 1, 1, 0]
noncomputable def f13n16 := @n_region (XK k) f13c16 _ _ _ rfl (by kernel_rfl)
noncomputable def f13c17 : Code := codeAt f13c0 [1, 0, 1, 0, 0, 1, 1, 1, 1, 1]
noncomputable def f13c18 : Code := codeAt f13c0 [1, 0, 1, 0, 0, 1, 1, 1, 1, 1, 0]
theorem f13n18 {ρ : Env} {s : St} {Q : Xit → Env → St → Prop} : wp (XK k) f13c18 ρ s Q = Q .normal ρ s := n_skip (by kernel_rfl)
noncomputable def f13c19 : Code := codeAt f13c0 [1, 0, 1, 0, 0, 1, 1, 1, 1, 1, 1]
noncomputable def f13n19 := @n_region (XK k) f13c19 _ _ _ rfl (by kernel_rfl)
theorem f13n17 {ρ : Env} {s : St} {Q : Xit → Env → St → Prop} : wp (XK k) f13c17 ρ s Q = condP (XK k) (boolOf (evo ρ (.tmp 5))) f13c18 f13c19 ρ s Q := n_cond (by kernel_rfl)
theorem f13n15 {ρ : Env} {s : St} {Q : Xit → Env → St → Prop} : wp (XK k) f13c15 ρ s Q = wp (XK k) f13c16 ρ s (seqP (XK k) f13c17 Q) := n_seq (by kernel_rfl)
theorem f13n13 {ρ : Env} {s : St} {Q : Xit → Env → St → Prop} : wp (XK k) f13c13 ρ s Q = condP (XK k) (boolOf (evo ρ (.tmp 5))) f13c14 f13c15 ρ s Q := n_cond (by kernel_rfl)
theorem f13n11 {ρ : Env} {s : St} {Q : Xit → Env → St → Prop} : wp (XK k) f13c11 ρ s Q = wp (XK k) f13c12 ρ s (seqP (XK k) f13c13 Q) := n_seq (by kernel_rfl)
theorem f13n9 {ρ : Env} {s : St} {Q : Xit → Env → St → Prop} : wp (XK k) f13c9 ρ s Q = condP (XK k) (boolOf (evo ρ (.tmp 5))) f13c10 f13c11 ρ s Q := n_cond (by kernel_rfl)
theorem f13n7 {ρ : Env} {s : St} {Q : Xit → Env → St → Prop} : wp (XK k) f13c7 ρ s Q = wp (XK k) f13c8 ρ s (seqP (XK k) f13c9 Q) := n_seq (by kernel_rfl)
noncomputable def f13c20 : Code := codeAt f13c0 [1, 0, 1, 0, 1]
noncomputable def f13c21 : Code := codeAt f13c0 [1, 0, 1, 0, 1, 0]
noncomputable def f13c22 : Code := codeAt f13c0 [1, 0, 1, 0, 1, 0, 0]
noncomputable def f13n22 := @n_region (XK k) f13c22 _ _ _ rfl (by kernel_rfl)
noncomputable def f13c23 : Code := codeAt f13c0 [1, 0, 1, 0, 1, 0, 1]
theorem f13n23 {ρ : Env} {s : St} {Q : Xit → Env → St → Prop} : wp (XK k) f13c23 ρ s Q = Q .ret ρ s := n_ret (by kernel_rfl)
theorem f13n21 {ρ : Env} {s : St} {Q : Xit → Env → St → Prop} : wp (XK k) f13c21 ρ s Q = wp (XK k) f13c22 ρ s (seqP (XK k) f13c23 Q) := n_seq (by kernel_rfl)
noncomputable def f13c24 : Code := codeAt f13c0 [1, 0, 1, 0, 1, 1]
theorem f13n24 {ρ : Env} {s : St} {Q : Xit → Env → St → Prop} : wp (XK k) f13c24 ρ s Q = Q .normal ρ s := n_skip (by kernel_rfl)
theorem f13n20 {ρ : Env} {s : St} {Q : Xit → Env → St → Prop} : wp (XK k) f13c20 ρ s Q = condP (XK k) (boolOf (evo ρ (.tmp 5))) f13c21 f13c24 ρ s Q := n_cond (by kernel_rfl)
theorem f13n6 {ρ : Env} {s : St} {Q : Xit → Env → St → Prop} : wp (XK k) f13c6 ρ s Q = wp (XK k) f13c7 ρ s (seqP (XK k) f13c20 Q) := n_seq (by kernel_rfl)
theorem f13n5 {ρ : Env} {s : St} {Q : Xit → Env → St → Prop} : wp (XK k) f13c5 ρ s Q = wp (XK k) f13c6 ρ s (blockQ 0 Q) := n_block (by kernel_rfl)
theorem f13n3 {ρ : Env} {s : St} {Q : Xit → Env → St → Prop} : wp (XK k) f13c3 ρ s Q = wp (XK k) f13c4 ρ s (seqP (XK k) f13c5 Q) := n_seq (by kernel_rfl)
noncomputable def f13c25 : Code := codeAt f13c0 [1, 1]
noncomputable def f13c26 : Code := codeAt f13c0 [1, 1, 0]
noncomputable def f13n26 := @n_region (XK k) f13c26 _ _ _ rfl (by kernel_rfl)
noncomputable def f13c27 : Code := codeAt f13c0 [1, 1, 1]
theorem f13n27 {ρ : Env} {s : St} {Q : Xit → Env → St → Prop} : wp (XK k) f13c27 ρ s Q = Q .ret ρ s := n_ret (by kernel_rfl)
theorem f13n25 {ρ : Env} {s : St} {Q : Xit → Env → St → Prop} : wp (XK k) f13c25 ρ s Q = wp (XK k) f13c26 ρ s (seqP (XK k) f13c27 Q) := n_seq (by kernel_rfl)
theorem f13n2 {ρ : Env} {s : St} {Q : Xit → Env → St → Prop} : wp (XK k) f13c2 ρ s Q = wp (XK k) f13c3 ρ s (seqP (XK k) f13c25 Q) := n_seq (by kernel_rfl)
theorem f13n0 {ρ : Env} {s : St} {Q : Xit → Env → St → Prop} : wp (XK k) f13c0 ρ s Q = wp (XK k) f13c1 ρ s (seqP (XK k) f13c2 Q) := n_seq (by kernel_rfl)
theorem f13_in (hk : Closed k) {x0 : Value} {s : St} {Q : Value → St → Prop} (h : wp (XK k) f13c0 (Env.of [x0]) s (rtP (XK k) [.tmp 2] Q)) : WC (XK k) 13 [x0] s Q := WC_in (fn := Tryd.f13) (c := f13c0) (n := 10) (hk _ _ _) (by kernel_rfl) (by kernel_rfl) (by kernel_rfl) (by kernel_rfl) rfl h
def f13N0 := And.intro (@f13n0 k) (And.intro (@f13n1 k) (And.intro (@f13n2 k) (And.intro (@f13n3 k) (And.intro (@f13n4 k) (And.intro (@f13n5 k) (And.intro (@f13n6 k) (And.intro (@f13n7 k) (And.intro (@f13n8 k) (@f13n9 k)))))))))
def f13N1 := And.intro (@f13n10 k) (And.intro (@f13n11 k) (And.intro (@f13n12 k) (And.intro (@f13n13 k) (And.intro (@f13n14 k) (And.intro (@f13n15 k) (And.intro (@f13n16 k) (And.intro (@f13n17 k) (And.intro (@f13n18 k) (@f13n19 k)))))))))
def f13N2 := And.intro (@f13n20 k) (And.intro (@f13n21 k) (And.intro (@f13n22 k) (And.intro (@f13n23 k) (And.intro (@f13n24 k) (And.intro (@f13n25 k) (And.intro (@f13n26 k) (@f13n27 k)))))))
noncomputable def f14c0 : Code := bodyOf Tryd.f14
noncomputable def f14c1 : Code := codeAt f14c0 [0]
noncomputable def f14n1 := @n_region (XK k) f14c1 _ _ _ rfl (by kernel_rfl)
noncomputable def f14c2 : Code := codeAt f14c0 [1]
noncomputable def f14c3 : Code := codeAt f14c0 [1, 0]
noncomputable def f14n3 := @n_region (XK k) f14c3 _ _ _ rfl (by kernel_rfl)
noncomputable def f14c4 : Code := codeAt f14c0 [1, 1]
noncomputable def f14c5 : Code := codeAt f14c0 [1, 1, 0]
noncomputable def f14n5 := @n_region (XK k) f14c5 _ _ _ rfl (by kernel_rfl)
noncomputable def f14c6 : Code := codeAt f14c0 [1, 1, 1]
noncomputable def f14c7 : Code := codeAt f14c0 [1, 1, 1, 0]
noncomputable def f14c8 : Code := codeAt f14c0 [1, 1, 1, 0, 0]
noncomputable def f14n8 := @n_region (XK k) f14c8 _ _ _ rfl (by kernel_rfl)
noncomputable def f14c9 : Code := codeAt f14c0 [1, 1, 1, 0, 1]
noncomputable def f14c10 : Code := codeAt f14c0 [1, 1, 1, 0, 1, 0]
noncomputable def f14c11 : Code := codeAt f14c0 [1, 1, 1, 0, 1, 0, 0]
noncomputable def f14c12 : Code := codeAt f14c0 [1, 1, 1, 0, 1, 0, 0, 0]
noncomputable def f14c13 : Code := codeAt f14c0 [1, 1, 1, 0, 1, 0, 0, 0, 0]
noncomputable def f14n13 := @n_region (XK k) f14c13 _ _ _ rfl (by kernel_rfl)
noncomputable def f14c14 : Code := codeAt f14c0 [1, 1, 1, 0, 1, 0, 0, 0, 1]
noncomputable def f14c15 : Code := codeAt f14c0 [1, 1, 1, 0, 1, 0, 0, 0, 1, 0]
theorem f14n15 {ρ : Env} {s : St} {Q : Xit → Env → St → Prop} : wp (XK k) f14c15 ρ s Q = Q .normal ρ s := n_skip (by kernel_rfl)
noncomputable def f14c16 : Code := codeAt f14c0 [1, 1, 1, 0, 1, 0, 0, 0, 1, 1]
theorem f14n16 {ρ : Env} {s : St} {Q : Xit → Env → St → Prop} : wp (XK k) f14c16 ρ s Q = Q (.exit 0) ρ s := n_exit (by kernel_rfl)
theorem f14n14 {ρ : Env} {s : St} {Q : Xit → Env → St → Prop} : wp (XK k) f14c14 ρ s Q = condP (XK k) (boolOf (evo ρ (.tmp 10))) f14c15 f14c16 ρ s Q := n_cond (by kernel_rfl)
theorem f14n12 {ρ : Env} {s : St} {Q : Xit → Env → St → Prop} : wp (XK k) f14c12 ρ s Q = wp (XK k) f14c13 ρ s (seqP (XK k) f14c14 Q) := n_seq (by kernel_rfl)
noncomputable def f14c17 : Code := codeAt f14c0 [1, 1, 1, 0, 1, 0, 0, 1]
noncomputable def f14c18 : Code := codeAt f14c0 [1, 1, 1, 0, 1, 0, 0, 1, 0]
noncomputable def f14c19 : Code := codeAt f14c0 [1, 1, 1, 0, 1, 0, 0, 1, 0, 0]
noncomputable def f14c20 : Code := codeAt f14c0 [1, 1, 1, 0, 1, 0, 0, 1, 0, 0, 0]
noncomputable def f14n20 := @n_region (XK k) f14c20 _ _ _ rfl (by kernel_rfl)
noncomputable def f14c21 : Code := codeAt f14c0 [1, 1, 1, 0, 1, 0, 0, 1, 0, 0, 1]
noncomputable def f14c22 : Code := codeAt f14c0 [1, 1, 1, 0, 1, 0, 0, 1, 0, 0, 1, 0]
noncomputable def f14c23 : Code := codeAt f14c0 [1, 1, 1, 0, 1, 0, 0, 1, 0, 0, 1, 0, 0]
noncomputable def f14n23 := @n_region (XK k) f14c23 _ _ _ rfl (by kernel_rfl)
noncomputable def f14c24 : Code := codeAt f14c0 [1, 1, 1, 0, 1, 0, 0, 1, 0, 0, 1, 0, 1]
theorem f14n24 {ρ : Env} {s : St} {Q : Xit → Env → St → Prop} : wp (XK k) f14c24 ρ s Q = Q .ret ρ s := n_ret (by kernel_rfl)
theorem f14n22 {ρ : Env} {s : St} {Q : Xit → Env → St → Prop} : wp (XK k) f14c22 ρ s Q = wp (XK k) f14c23 ρ s (seqP (XK k) f14c24 Q) := n_seq (by kernel_rfl)
noncomputable def f14c25 : Code := codeAt f14c0 [1, 1, 1, 0, 1, 0, 0, 1, 0, 0, 1, 1]
theorem f14n25 {ρ : Env} {s : St} {Q : Xit → Env → St → Prop} : wp (XK k) f14c25 ρ s Q = Q .normal ρ s := n_skip (by kernel_rfl)
theorem f14n21 {ρ : Env} {s : St} {Q : Xit → Env → St → Prop} : wp (XK k) f14c21 ρ s Q = condP (XK k) (boolOf (evo ρ (.tmp 18))) f14c22 f14c25 ρ s Q := n_cond (by kernel_rfl)
theorem f14n19 {ρ : Env} {s : St} {Q : Xit → Env → St → Prop} : wp (XK k) f14c19 ρ s Q = wp (XK k) f14c20 ρ s (seqP (XK k) f14c21 Q) := n_seq (by kernel_rfl)
theorem f14n18 {ρ : Env} {s : St} {Q : Xit → Env → St → Prop} : wp (XK k) f14c18 ρ s Q = wp (XK k) f14c19 ρ s (blockQ 1 Q) := n_block (by kernel_rfl)
noncomputable def f14c26 : Code := codeAt f14c0 [1, 1, 1, 0, 1, 0, 0, 1, 1]
noncomputable def f14n26 := @n_region (XK k) f14c26 _ _ _ rfl (by kernel_rfl)
theorem f14n17 {ρ : Env} {s : St} {Q : Xit → Env → St → Prop} : wp (XK k) f14c17 ρ s Q = wp (XK k) f14c18 ρ s (seqP (XK k) f14c26 Q) := n_seq (by kernel_rfl)
theorem f14n11 {ρ : Env} {s : St} {Q : Xit → Env → St → Prop} : wp (XK k) f14c11 ρ s Q = wp (XK k) f14c12 ρ s (seqP (XK k) f14c17 Q) := n_seq (by kernel_rfl)
theorem f14n10 {ρ : Env} {s : St} {Q : Xit → Env → St → Prop} : wp (XK k) f14c10 ρ s Q = W (XK k) (.loop f14c11) ρ s Q := n_loop (by kernel_rfl)
theorem f14n9 {ρ : Env} {s : St} {Q : Xit → Env → St → Prop} : wp (XK k) f14c9 ρ s Q = wp (XK k) f14c10 ρ s (blockQ 0 Q) := n_block (by kernel_rfl)
theorem f14n7 {ρ : Env} {s : St} {Q : Xit → Env → St → Prop} : wp (XK k) f14c7 ρ s Q = wp (XK k) f14c8 ρ s (seqP (XK k) f14c9 Q) := n_seq (by kernel_rfl)
noncomputable def f14c27 : Code := codeAt f14c0 [1, 1, 1, 1]
noncomputable def f14c28 : Code := codeAt f14c0 [1, 1, 1, 1, 0]
noncomputable def f14n28 := @n_region (XK k) f14c28 _ _ _ rfl (by kernel_rfl)
noncomputable def f14c29 : Code := codeAt f14c0 [1, 1, 1, 1, 1]
theorem f14n29 {ρ : Env} {s : St} {Q : Xit → Env → St → Prop} : wp (XK k) f14c29 ρ s Q = Q .ret ρ s := n_ret (by kernel_rfl)
theorem f14n27 {ρ : Env} {s : St} {Q : Xit → Env → St → Prop} : wp (XK k) f14c27 ρ s Q = wp (XK k) f14c28 ρ s (seqP (XK k) f14c29 Q) := n_seq (by kernel_rfl)
theorem f14n6 {ρ : Env} {s : St} {Q : Xit → Env → St → Prop} : wp (XK k) f14c6 ρ s Q = wp (XK k) f14c7 ρ s (seqP (XK k) f14c27 Q) := n_seq (by kernel_rfl)
theorem f14n4 {ρ : Env} {s : St} {Q : Xit → Env → St → Prop} : wp (XK k) f14c4 ρ s Q = wp (XK k) f14c5 ρ s (seqP (XK k) f14c6 Q) := n_seq (by kernel_rfl)
theorem f14n2 {ρ : Env} {s : St} {Q : Xit → Env → St → Prop} : wp (XK k) f14c2 ρ s Q = wp (XK k) f14c3 ρ s (seqP (XK k) f14c4 Q) := n_seq (by kernel_rfl)
theorem f14n0 {ρ : Env} {s : St} {Q : Xit → Env → St → Prop} : wp (XK k) f14c0 ρ s Q = wp (XK k) f14c1 ρ s (seqP (XK k) f14c2 Q) := n_seq (by kernel_rfl)
theorem f14_in (hk : Closed k) {x0 : Value} {s : St} {Q : Value → St → Prop} (h : wp (XK k) f14c0 (Env.of [x0]) s (rtP (XK k) [.tmp 2] Q)) : WC (XK k) 14 [x0] s Q := WC_in (fn := Tryd.f14) (c := f14c0) (n := 24) (hk _ _ _) (by kernel_rfl) (by kernel_rfl) (by kernel_rfl) (by kernel_rfl) rfl h
def f14N0 := And.intro (@f14n0 k) (And.intro (@f14n1 k) (And.intro (@f14n2 k) (And.intro (@f14n3 k) (And.intro (@f14n4 k) (And.intro (@f14n5 k) (And.intro (@f14n6 k) (And.intro (@f14n7 k) (And.intro (@f14n8 k) (@f14n9 k)))))))))
def f14N1 := And.intro (@f14n10 k) (And.intro (@f14n11 k) (And.intro (@f14n12 k) (And.intro (@f14n13 k) (And.intro (@f14n14 k) (And.intro (@f14n15 k) (And.intro (@f14n16 k) (And.intro (@f14n17 k) (And.intro (@f14n18 k) (@f14n19 k)))))))))
def f14N2 := And.intro (@f14n20 k) (And.intro (@f14n21 k) (And.intro (@f14n22 k) (And.intro (@f14n23 k) (And.intro (@f14n24 k) (And.intro (@f14n25 k) (And.intro (@f14n26 k) (And.intro (@f14n27 k) (And.intro (@f14n28 k) (@f14n29 k)))))))))
noncomputable def f15c0 : Code := bodyOf Tryd.f15
noncomputable def f15c1 : Code := codeAt f15c0 [0]
noncomputable def f15n1 := @n_region (XK k) f15c1 _ _ _ rfl (by kernel_rfl)
noncomputable def f15c2 : Code := codeAt f15c0 [1]
noncomputable def f15c3 : Code := codeAt f15c0 [1, 0]
noncomputable def f15n3 := @n_region (XK k) f15c3 _ _ _ rfl (by kernel_rfl)
noncomputable def f15c4 : Code := codeAt f15c0 [1, 1]
noncomputable def f15c5 : Code := codeAt f15c0 [1, 1, 0]
noncomputable def f15c6 : Code := codeAt f15c0 [1, 1, 0, 0]
noncomputable def f15n6 := @n_region (XK k) f15c6 _ _ _ rfl (by kernel_rfl)
noncomputable def f15c7 : Code := codeAt f15c0 [1, 1, 0, 1]
noncomputable def f15c8 : Code := codeAt f15c0 [1, 1, 0, 1, 0]
noncomputable def f15c9 : Code := codeAt f15c0 [1, 1, 0, 1, 0, 0]
noncomputable def f15c10 : Code := codeAt f15c0 [1, 1, 0, 1, 0, 0, 0]
noncomputable def f15n10 := @n_region (XK k) f15c10 _ _ _ rfl (by kernel_rfl)
noncomputable def f15c11 : Code := codeAt f15c0 [1, 1, 0, 1, 0, 0, 1]
noncomputable def f15c12 : Code := codeAt f15c0 [1, 1, 0, 1, 0, 0, 1, 0]
noncomputable def f15c13 : Code := codeAt f15c0 [1, 1, 0, 1, 0, 0, 1, 0, 0]
theorem f15n13 {ρ : Env} {s : St} {Q : Xit → Env → St → Prop} : wp (XK k) f15c13 ρ s Q = Q .normal ρ s := n_skip (by kernel_rfl)
noncomputable def f15c14 : Code := codeAt f15c0 [1, 1, 0, 1, 0, 0, 1, 0, 1]
theorem f15n14 {ρ : Env} {s : St} {Q : Xit → Env → St → Prop} : wp (XK k) f15c14 ρ s Q = Q (.exit 0) ρ s := n_exit (by kernel_rfl)
theorem f15n12 {ρ : Env} {s : St} {Q : Xit → Env → St → Prop} : wp (XK k) f15c12 ρ s Q = condP (XK k) (boolOf (evo ρ (.tmp 9))) f15c13 f15c14 ρ s Q := n_cond (by kernel_rfl)
noncomputable def f15c15 : Code := codeAt f15c0 [1, 1, 0, 1, 0, 0, 1, 1]
noncomputable def f15c16 : Code := codeAt f15c0 [1, 1, 0, 1, 0, 0, 1, 1, 0]
noncomputable def f15c17 : Code := codeAt f15c0 [1, 1, 0, 1, 0, 0, 1, 1, 0, 0]
noncomputable def f15c18 : Code := codeAt f15c0 [1, 1, 0, 1, 0, 0, 1, 1, 0, 0, 0]
noncomputable def f15n18 := @n_region (XK k) f15c18 _ _ _ rfl (by kernel_rfl)
noncomputable def f15c19 : Code := codeAt f15c0 [1, 1, 0, 1, 0, 0, 1, 1, 0, 0, 1]
noncomputable def f15n19 := @n_region (XK k) f15c19 _ _ _ rfl (by kernel_rfl)
theorem f15n17 {ρ : Env} {s : St} {Q : Xit → Env → St → Prop} : wp (XK k) f15c17 ρ s Q = wp (XK k) f15c18 ρ s (seqP (XK k) f15c19 Q) := n_seq (by kernel_rfl)
theorem f15n16 {ρ : Env} {s : St} {Q : Xit → Env → St → Prop} : wp (XK k) f15c16 ρ s Q = wp (XK k) f15c17 ρ s (blockQ 1 Q) := n_block (by kernel_rfl)
noncomputable def f15c20 : Code := codeAt f15c0 [1, 1, 0, 1, 0, 0, 1, 1, 1]
noncomputable def f15n20 := @n_region (XK k) f15c20 _ _ _ rfl (by kernel_rfl)
theorem f15n15 {ρ : Env} {s : St} {Q : Xit → Env → St → Prop} : wp (XK k) f15c15 ρ s Q = wp (XK k) f15c16 ρ s (seqP (XK k) f15c20 Q) := n_seq (by kernel_rfl)
theorem f15n11 {ρ : Env} {s : St} {Q : Xit → Env → St → Prop} : wp (XK k) f15c11 ρ s Q = wp (XK k) f15c12 ρ s (seqP (XK k) f15c15 Q) := n_seq (by kernel_rfl)
theorem f15n9 {ρ : Env} {s : St} {Q : Xit → Env → St → Prop} : wp (XK k) f15c9 ρ s Q = wp (XK k) f15c10 ρ s (seqP (XK k) f15c11 Q) := n_seq (by kernel_rfl)
theorem f15n8 {ρ : Env} {s : St} {Q : Xit → Env → St → Prop} : wp (XK k) f15c8 ρ s Q = W (XK k) (.loop f15c9) ρ s Q := n_loop (by kernel_rfl)
theorem f15n7 {ρ : Env} {s : St} {Q : Xit → Env → St → Prop} : wp (XK k) f15c7 ρ s Q = wp (XK k) f15c8 ρ s (blockQ 0 Q) := n_block (by kernel_rfl)
theorem f15n5 {ρ : Env} {s : St} {Q : Xit → Env → St → Prop} : wp (XK k) f15c5 ρ s Q = wp (XK k) f15c6 ρ s (seqP (XK k) f15c7 Q) := n_seq (by kernel_rfl)
noncomputable def f15c21 : Code := codeAt f15c0 [1, 1, 1]
noncomputable def f15c22 : Code := codeAt f15c0 [1, 1, 1, 0]
noncomputable def f15n22 := @n_region (XK k) f15c22 _ _ _ rfl (by kernel_rfl)
noncomputable def f15c23 : Code := codeAt f15c0 [1, 1, 1, 1]
theorem f15n23 {ρ : Env} {s : St} {Q : Xit → Env → St → Prop} : wp (XK k) f15c23 ρ s Q = Q .ret ρ s := n_ret (by kernel_rfl)
theorem f15n21 {ρ : Env} {s : St} {Q : Xit → Env → St → Prop} : wp (XK k) f15c21 ρ s Q = wp (XK k) f15c22 ρ s (seqP (XK k) f15c23 Q) := n_seq (by kernel_rfl)
theorem f15n4 {ρ : Env} {s : St} {Q : Xit → Env → St → Prop} : wp (XK k) f15c4 ρ s Q = wp (XK k) f15c5 ρ s (seqP (XK k) f15c21 Q) := n_seq (by kernel_rfl)
theorem f15n2 {ρ : Env} {s : St} {Q : Xit → Env → St → Prop} : wp (XK k) f15c2 ρ s Q = wp (XK k) f15c3 ρ s (seqP (XK k) f15c4 Q) := n_seq (by kernel_rfl)
theorem f15n0 {ρ : Env} {s : St} {Q : Xit → Env → St → Prop} : wp (XK k) f15c0 ρ s Q = wp (XK k) f15c1 ρ s (seqP (XK k) f15c2 Q) := n_seq (by kernel_rfl)
theorem f15_in (hk : Closed k) {x0 : Value} {s : St} {Q : Value → St → Prop} (h : wp (XK k) f15c0 (Env.of [x0]) s (rtP (XK k) [.cell 2 26] Q)) : WC (XK k) 15 [x0] s Q := WC_in (fn := Tryd.f15) (c := f15c0) (n := 20) (hk _ _ _) (by kernel_rfl) (by kernel_rfl) (by kernel_rfl) (by kernel_rfl) rfl h
def f15N0 := And.intro (@f15n0 k) (And.intro (@f15n1 k) (And.intro (@f15n2 k) (And.intro (@f15n3 k) (And.intro (@f15n4 k) (And.intro (@f15n5 k) (And.intro (@f15n6 k) (And.intro (@f15n7 k) (And.intro (@f15n8 k) (@f15n9 k)))))))))
def f15N1 := And.intro (@f15n10 k) (And.intro (@f15n11 k) (And.intro (@f15n12 k) (And.intro (@f15n13 k) (And.intro (@f15n14 k) (And.intro (@f15n15 k) (And.intro (@f15n16 k) (And.intro (@f15n17 k) (And.intro (@f15n18 k) (@f15n19 k)))))))))
def f15N2 := And.intro (@f15n20 k) (And.intro (@f15n21 k) (And.intro (@f15n22 k) (@f15n23 k)))
noncomputable def f16c0 : Code := bodyOf Tryd.f16
noncomputable def f16c1 : Code := codeAt f16c0 [0]
noncomputable def f16n1 := @n_region (XK k) f16c1 _ _ _ rfl (by kernel_rfl)
noncomputable def f16c2 : Code := codeAt f16c0 [1]
noncomputable def f16c3 : Code := codeAt f16c0 [1, 0]
noncomputable def f16c4 : Code := codeAt f16c0 [1, 0, 0]
noncomputable def f16n4 := @n_region (XK k) f16c4 _ _ _ rfl (by kernel_rfl)
noncomputable def f16c5 : Code := codeAt f16c0 [1, 0, 1]
noncomputable def f16c6 : Code := codeAt f16c0 [1, 0, 1, 0]
noncomputable def f16c7 : Code := codeAt f16c0 [1, 0, 1, 0, 0]
noncomputable def f16n7 := @n_region (XK k) f16c7 _ _ _ rfl (by kernel_rfl)
noncomputable def f16c8 : Code := codeAt f16c0 [1, 0, 1, 0, 1]
theorem f16n8 {ρ : Env} {s : St} {Q : Xit → Env → St → Prop} : wp (XK k) f16c8 ρ s Q = Q .ret ρ s := n_ret (by kernel_rfl)
theorem f16n6 {ρ : Env} {s : St} {Q : Xit → Env → St → Prop} : wp (XK k) f16c6 ρ s Q = wp (XK k) f16c7 ρ s (seqP (XK k) f16c8 Q) := n_seq (by kernel_rfl)
noncomputable def f16c9 : Code := codeAt f16c0 [1, 0, 1, 1]
theorem f16n9 {ρ : Env} {s : St} {Q : Xit → Env → St → Prop} : wp (XK k) f16c9 ρ s Q = Q .normal ρ s := n_skip (by kernel_rfl)
theorem f16n5 {ρ : Env} {s : St} {Q : Xit → Env → St → Prop} : wp (XK k) f16c5 ρ s Q = condP (XK k) (boolOf (evo ρ (.tmp 10))) f16c6 f16c9 ρ s Q := n_cond (by kernel_rfl)
theorem f16n3 {ρ : Env} {s : St} {Q : Xit → Env → St → Prop} : wp (XK k) f16c3 ρ s Q = wp (XK k) f16c4 ρ s (seqP (XK k) f16c5 Q) := n_seq (by kernel_rfl)
noncomputable def f16c10 : Code := codeAt f16c0 [1, 1]
noncomputable def f16c11 : Code := codeAt f16c0 [1, 1, 0]
noncomputable def f16c12 : Code := codeAt f16c0 [1, 1, 0, 0]
noncomputable def f16n12 := @n_region (XK k) f16c12 _ _ _ rfl (by kernel_rfl)
noncomputable def f16c13 : Code := codeAt f16c0 [1, 1, 0, 1]
noncomputable def f16c14 : Code := codeAt f16c0 [1, 1, 0, 1, 0]
noncomputable def f16c15 : Code := codeAt f16c0 [1, 1, 0, 1, 0, 0]
noncomputable def f16c16 : Code := codeAt f16c0 [1, 1, 0, 1, 0, 0, 0]
noncomputable def f16n16 := @n_region (XK k) f16c16 _ _ _ rfl (by kernel_rfl)
noncomputable def f16c17 : Code := codeAt f16c0 [1, 1, 0, 1, 0, 0, 1]
noncomputable def f16c18 : Code := codeAt f16c0 [1, 1, 0, 1, 0, 0, 1, 0]
noncomputable def f16c19 : Code := codeAt f16c0 [1, 1, 0, 1, 0, 0, 1, 0, 0]
theorem f16n19 {ρ : Env} {s : St} {Q : Xit → Env → St → Prop} : wp (XK k) f16c19 ρ s Q = Q .normal ρ s := n_skip (by kernel_rfl)
noncomputable def f16c20 : Code := codeAt f16c0 [1, 1, 0, 1, 0, 0, 1, 0, 1]
theorem f16n20 {ρ : Env} {s : St} {Q : Xit → Env → St → Prop} : wp (XK k) f16c20 ρ s Q = Q (.exit 0) ρ s := n_exit (by kernel_rfl)
theorem f16n18 {ρ : Env} {s : St} {Q : Xit → Env → St → Prop} : wp (XK k) f16c18 ρ s Q = condP (XK k) (boolOf (evo ρ (.tmp 14))) f16c19 f16c20 ρ s Q := n_cond (by kernel_rfl)
noncomputable def f16c21 : Code := codeAt f16c0 [1, 1, 0, 1, 0, 0, 1, 1]
noncomputable def f16c22 : Code := codeAt f16c0 [1, 1, 0, 1, 0, 0, 1, 1, 0]
noncomputable def f16c23 : Code := codeAt f16c0 [1, 1, 0, 1, 0, 0, 1, 1, 0, 0]
noncomputable def f16c24 : Code := codeAt f16c0 [1, 1, 0, 1, 0, 0, 1, 1, 0, 0, 0]
noncomputable def f16n24 := @n_region (XK k) f16c24 _ _ _ rfl (by kernel_rfl)
noncomputable def f16c25 : Code := codeAt f16c0 [1, 1, 0, 1, 0, 0, 1, 1, 0, 0, 1]
noncomputable def f16c26 : Code := codeAt f16c0 [1, 1, 0, 1, 0, 0, 1, 1, 0, 0, 1, 0]
noncomputable def f16n26 := @n_regionD (XK k) f16c26 _ _ _ [(2, []), (2, []), (2, []), (2, []), (1, []), (2, [4]), (2, [4]), (2, [4]), (2, [4]), (1, []), (2, [])] rfl (by kernel_rfl) (by kernel_rfl) (by kernel_rfl)
noncomputable def f16c27 : Code := codeAt f16c0 [1, 1, 0, 1, 0, 0, 1, 1, 0, 0, 1, 1]
noncomputable def f16c28 : Code := codeAt f16c0 [1, 1, 0, 1, 0, 0, 1, 1, 0, 0, 1, 1, 0]
noncomputable def f16c29 : Code := codeAt f16c0 [1, 1, 0, 1, 0, 0, 1, 1, 0, 0, 1, 1, 0, 0]
noncomputable def f16n29 := @n_region (XK k) f16c29 _ _ _ rfl (by kernel_rfl)
noncomputable def f16c30 : Code := codeAt f16c0 [1, 1, 0, 1, 0, 0, 1, 1, 0, 0, 1, 1, 0, 1]
theorem f16n30 {ρ : Env} {s : St} {Q : Xit → Env → St → Prop} : wp (XK k) f16c30 ρ s Q = Q .ret ρ s := n_ret (by kernel_rfl)
theorem f16n28 {ρ : Env} {s : St} {Q : Xit → Env → St → Prop} : wp (XK k) f16c28 ρ s Q = wp (XK k) f16c29 ρ s (seqP (XK k) f16c30 Q) := n_seq (by kernel_rfl)
noncomputable def f16c31 : Code := codeAt f16c0 [1, 1, 0, 1, 0, 0, 1, 1, 0, 0, 1, 1, 1]
theorem f16n31 {ρ : Env} {s : St} {Q : Xit → Env → St → Prop} : wp (XK k) f16c31 ρ s Q = Q .normal ρ s := n_skip (by kernel_rfl)
theorem f16n27 {ρ : Env} {s : St} {Q : Xit → Env → St → Prop} : wp (XK k) f16c27 ρ s Q = condP (XK k) (boolOf (evo ρ (.tmp 26))) f16c28 f16c31 ρ s Q := n_cond (by kernel_rfl)
theorem f16n25 {ρ : Env} {s : St} {Q : Xit → Env → St → Prop} : wp (XK k) f16c25 ρ s Q = wp (XK k) f16c26 ρ s (seqP (XK k) f16c27 Q) := n_seq (by kernel_rfl)
theorem f16n23 {ρ : Env} {s : St} {Q : Xit → Env → St → Prop} : wp (XK k) f16c23 ρ s Q = wp (XK k) f16c24 ρ s (seqP (XK k) f16c25 Q) := n_seq (by kernel_rfl)
theorem f16n22 {ρ : Env} {s : St} {Q : Xit → Env → St → Prop} : wp (XK k) f16c22 ρ s Q = wp (XK k) f16c23 ρ s (blockQ 1 Q) := n_block (by kernel_rfl)
noncomputable def f16c32 : Code := codeAt f16c0 [1, 1, 0, 1, 0, 0, 1, 1, 1]
noncomputable def f16n32 := @n_region (XK k) f16c32 _ _ _ rfl (by kernel_rfl)
theorem f16n21 {ρ : Env} {s : St} {Q : Xit → Env → St → Prop} : wp (XK k) f16c21 ρ s Q = wp (XK k) f16c22 ρ s (seqP (XK k) f16c32 Q) := n_seq (by kernel_rfl)
theorem f16n17 {ρ : Env} {s : St} {Q : Xit → Env → St → Prop} : wp (XK k) f16c17 ρ s Q = wp (XK k) f16c18 ρ s (seqP (XK k) f16c21 Q) := n_seq (by kernel_rfl)
theorem f16n15 {ρ : Env} {s : St} {Q : Xit → Env → St → Prop} : wp (XK k) f16c15 ρ s Q = wp (XK k) f16c16 ρ s (seqP (XK k) f16c17 Q) := n_seq (by kernel_rfl)
theorem f16n14 {ρ : Env} {s : St} {Q : Xit → Env → St → Prop} : wp (XK k) f16c14 ρ s Q = W (XK k) (.loop f16c15) ρ s Q := n_loop (by kernel_rfl)
theorem f16n13 {ρ : Env} {s : St} {Q : Xit → Env → St → Prop} : wp (XK k) f16c13 ρ s Q = wp (XK k) f16c14 ρ s (blockQ 0 Q) := n_block (by kernel_rfl)
theorem f16n11 {ρ : Env} {s : St} {Q : Xit → Env → St → Prop} : wp (XK k) f16c11 ρ s Q = wp (XK k) f16c12 ρ s (seqP (XK k) f16c13 Q) := n_seq (by kernel_rfl)
noncomputable def f16c33 : Code := codeAt f16c0 [1, 1, 1]
noncomputable def f16c34 : Code := codeAt f16c0 [1, 1, 1, 0]
noncomputable def f16n34 := @n_region (XK k) f16c34 _ _ _ rfl (by kernel_rfl)
noncomputable def f16c35 : Code := codeAt f16c0 [1, 1, 1, 1]
theorem f16n35 {ρ : Env} {s : St} {Q : Xit → Env → St → Prop} : wp (XK k) f16c35 ρ s Q = Q .ret ρ s := n_ret (by kernel_rfl)
theorem f16n33 {ρ : Env} {s : St} {Q : Xit → Env → St → Prop} : wp (XK k) f16c33 ρ s Q = wp (XK k) f16c34 ρ s (seqP (XK k) f16c35 Q) := n_seq (by kernel_rfl)
theorem f16n10 {ρ : Env} {s : St} {Q : Xit → Env → St → Prop} : wp (XK k) f16c10 ρ s Q = wp (XK k) f16c11 ρ s (seqP (XK k) f16c33 Q) := n_seq (by kernel_rfl)
theorem f16n2 {ρ : Env} {s : St} {Q : Xit → Env → St → Prop} : wp (XK k) f16c2 ρ s Q = wp (XK k) f16c3 ρ s (seqP (XK k) f16c10 Q) := n_seq (by kernel_rfl)
theorem f16n0 {ρ : Env} {s : St} {Q : Xit → Env → St → Prop} : wp (XK k) f16c0 ρ s Q = wp (XK k) f16c1 ρ s (seqP (XK k) f16c2 Q) := n_seq (by kernel_rfl)
theorem f16_in (hk : Closed k) {x0 : Value} {x1 : Value} {s : St} {Q : Value → St → Prop} (h : wp (XK k) f16c0 (Env.of [x0, x1]) s (rtP (XK k) [.tmp 4] Q)) : WC (XK k) 16 [x0, x1] s Q := WC_in (fn := Tryd.f16) (c := f16c0) (n := 28) (hk _ _ _) (by kernel_rfl) (by kernel_rfl) (by kernel_rfl) (by kernel_rfl) rfl h
def f16N0 := And.intro (@f16n0 k) (And.intro (@f16n1 k) (And.intro (@f16n2 k) (And.intro (@f16n3 k) (And.intro (@f16n4 k) (And.intro (@f16n5 k) (And.intro (@f16n6 k) (And.intro (@f16n7 k) (And.intro (@f16n8 k) (@f16n9 k)))))))))
def f16N1 := And.intro (@f16n10 k) (And.intro (@f16n11 k) (And.intro (@f16n12 k) (And.intro (@f16n13 k) (And.intro (@f16n14 k) (And.intro (@f16n15 k) (And.intro (@f16n16 k) (And.intro (@f16n17 k) (And.intro (@f16n18 k) (@f16n19 k)))))))))
def f16N2 := And.intro (@f16n20 k) (And.intro (@f16n21 k) (And.intro (@f16n22 k) (And.intro (@f16n23 k) (And.intro (@f16n24 k) (And.intro (@f16n25 k) (And.intro (@f16n26 k) (And.intro (@f16n27 k) (And.intro (@f16n28 k) (@f16n29 k)))))))))
def f16N3 := And.intro (@f16n30 k) (And.intro (@f16n31 k) (And.intro (@f16n32 k) (And.intro (@f16n33 k) (And.intro (@f16n34 k) (@f16n35 k)))))
noncomputable def f18c0 : Code := bodyOf Tryd.f18
noncomputable def f18c1 : Code := codeAt f18c0 [0]
noncomputable def f18n1 := @n_region (XK k) f18c1 _ _ _ rfl (by kernel_rfl)
noncomputable def f18c2 : Code := codeAt f18c0 [1]
noncomputable def f18c3 : Code := codeAt f18c0 [1, 0]
noncomputable def f18n3 := @n_region (XK k) f18c3 _ _ _ rfl (by kernel_rfl)
noncomputable def f18c4 : Code := codeAt f18c0 [1, 1]
noncomputable def f18c5 : Code := codeAt f18c0 [1, 1, 0]
noncomputable def f18c6 : Code := codeAt f18c0 [1, 1, 0, 0]
noncomputable def f18c7 : Code := codeAt f18c0 [1, 1, 0, 0, 0]
noncomputable def f18n7 := @n_region (XK k) f18c7 _ _ _ rfl (by kernel_rfl)
noncomputable def f18c8 : Code := codeAt f18c0 [1, 1, 0, 0, 1]
noncomputable def f18c9 : Code := codeAt f18c0 [1, 1, 0, 0, 1, 0]
noncomputable def f18c10 : Code := codeAt f18c0 [1, 1, 0, 0, 1, 0, 0]
noncomputable def f18n10 := @n_region (XK k) f18c10 _ _ _ rfl (by kernel_rfl)
noncomputable def f18c11 : Code := codeAt f18c0 [1, 1, 0, 0, 1, 0, 1]
theorem f18n11 {ρ : Env} {s : St} {Q : Xit → Env → St → Prop} : wp (XK k) f18c11 ρ s Q = Q .ret ρ s := n_ret (by kernel_rfl)
theorem f18n9 {ρ : Env} {s : St} {Q : Xit → Env → St → Prop} : wp (XK k) f18c9 ρ s Q = wp (XK k) f18c10 ρ s (seqP (XK k) f18c11 Q) := n_seq (by kernel_rfl)
noncomputable def f18c12 : Code := codeAt f18c0 [1, 1, 0, 0, 1, 1]
noncomputable def f18c13 : Code := codeAt f18c0 [1, 1, 0, 0, 1, 1, 0]
noncomputable def f18n13 := @n_region (XK k) f18c13 _ _ _ rfl (by kernel_rfl)
noncomputable def f18c14 : Code := codeAt f18c0 [1, 1, 0, 0, 1, 1, 1]
noncomputable def f18c15 : Code := codeAt f18c0 [1, 1, 0, 0, 1, 1, 1, 0]
noncomputable def f18c16 : Code := codeAt f18c0 [1, 1, 0, 0, 1, 1, 1, 0, 0]
noncomputable def f18n16 := @n_region (XK k) f18c16 _ _ _ rfl (by kernel_rfl)
noncomputable def f18c17 : Code := codeAt f18c0 [1, 1, 0, 0, 1, 1, 1, 0, 1]
theorem f18n17 {ρ : Env} {s : St} {Q : Xit → Env → St → Prop} : wp (XK k) f18c17 ρ s Q = Q .ret ρ s := n_ret (by kernel_rfl)
theorem f18n15 {ρ : Env} {s : St} {Q : Xit → Env → St → Prop} : wp (XK k) f18c15 ρ s Q = wp (XK k) f18c16 ρ s (seqP (XK k) f18c17 Q) := n_seq (by kernel_rfl)
noncomputable def f18c18 : Code := codeAt f18c0 [1, 1, 0, 0, 1, 1, 1, 1]
noncomputable def f18c19 : Code := codeAt f18c0 [1, 1, 0, 0, 1, 1, 1, 1, 0]
noncomputable def f18n19 := @n_region (XK k) f18c19 _ _ _ rfl (by kernel_rfl)
noncomputable def f18c20 : Code := codeAt f18c0 [1, 1, 0, 0, 1, 1, 1, 1, 1]
noncomputable def f18c21 : Code := codeAt f18c0 [1, 1, 0, 0, 1, 1, 1, 1, 1, 0]
noncomputable def f18c22 : Code := codeAt f18c0 [1, 1, 0, 0, 1, 1, 1, 1, 1, 0, 0]
noncomputable def f18n22 := @n_region (XK k) f18c22 _ _ _ rfl (by kernel_rfl)
noncomputable def f18c23 : Code := codeAt f18c0 [1, 1, 0, 0, 1, 1, 1, 1, 1, 0, 1]
theorem f18n23 {ρ : Env} {s : St} {Q : Xit → Env → St → Prop} : wp (XK k) f18c23 ρ s Q = Q .ret ρ s := n_ret (by kernel_rfl)
theorem f18n21 {ρ : Env} {s : St} {Q : Xit → Env → St → Prop} : wp (XK k) f18c21 ρ s Q = wp (XK k) f18c22 ρ s (seqP (XK k) f18c23 Q) := n_seq (by kernel_rfl)
noncomputable def f18c24 : Code := codeAt f18c0 [1, 1, 0, 0, 1, 1, 1, 1, 1, 1]
theorem f18n24 {ρ : Env} {s : St} {Q : Xit → Env → St → Prop} : wp (XK k) f18c24 ρ s Q = Q .normal ρ s := n_skip (by kernel_rfl)
theorem f18n20 {ρ : Env} {s : St} {Q : Xit → Env → St → Prop} : wp (XK k) f18c20 ρ s Q = condP (XK k) (boolOf (evo ρ (.tmp 52))) f18c21 f18c24 ρ s Q := n_cond (by kernel_rfl)
theorem f18n18 {ρ : Env} {s : St} {Q : Xit → Env → St → Prop} : wp (XK k) f18c18 ρ s Q = wp (XK k) f18c19 ρ s (seqP (XK k) f18c20 Q) := n_seq (by kernel_rfl)
theorem f18n14 {ρ : Env} {s : St} {Q : Xit → Env → St → Prop} : wp (XK k) f18c14 ρ s Q = condP (XK k) (boolOf (evo ρ (.tmp 25))) f18c15 f18c18 ρ s Q := n_cond (by kernel_rfl)
theorem f18n12 {ρ : Env} {s : St} {Q : Xit → Env → St → Prop} : wp (XK k) f18c12 ρ s Q = wp (XK k) f18c13 ρ s (seqP (XK k) f18c14 Q) := n_seq (by kernel_rfl)
theorem f18n8 {ρ : Env} {s : St} {Q : Xit → Env → St → Prop} : wp (XK k) f18c8 ρ s Q = condP (XK k) (boolOf (evo ρ (.tmp 6))) f18c9 f18c12 ρ s Q := n_cond (by kernel_rfl)
theorem f18n6 {ρ : Env} {s : St} {Q : Xit → Env → St → Prop} : wp (XK k) f18c6 ρ s Q = wp (XK k) f18c7 ρ s (seqP (XK k) f18c8 Q) := n_seq (by kernel_rfl)
theorem f18n5 {ρ : Env} {s : St} {Q : Xit → Env → St → Prop} : wp (XK k) f18c5 ρ s Q = wp (XK k) f18c6 ρ s (blockQ 0 Q) := n_block (by kernel_rfl)
noncomputable def f18c25 : Code := codeAt f18c0 [1, 1, 1]
noncomputable def f18c26 : Code := codeAt f18c0 [1, 1, 1, 0]
noncomputable def f18n26 := @n_region (XK k) f18c26 _ _ _ rfl (by kernel_rfl)
noncomputable def f18c27 : Code := codeAt f18c0 [1, 1, 1, 1]
theorem f18n27 {ρ : Env} {s : St} {Q : Xit → Env → St → Prop} : wp (XK k) f18c27 ρ s Q = Q .ret ρ s := n_ret (by kernel_rfl)
theorem f18n25 {ρ : Env} {s : St} {Q : Xit → Env → St → Prop} : wp (XK k) f18c25 ρ s Q = wp (XK k) f18c26 ρ s (seqP (XK k) f18c27 Q) := n_seq (by kernel_rfl)
theorem f18n4 {ρ : Env} {s : St} {Q : Xit → Env → St → Prop} : wp (XK k) f18c4 ρ s Q = wp (XK k) f18c5 ρ s (seqP (XK k) f18c25 Q) := n_seq (by kernel_rfl)
theorem f18n2 {ρ : Env} {s : St} {Q : Xit → Env → St → Prop} : wp (XK k) f18c2 ρ s Q = wp (XK k) f18c3 ρ s (seqP (XK k) f18c4 Q) := n_seq (by kernel_rfl)
theorem f18n0 {ρ : Env} {s : St} {Q : Xit → Env → St → Prop} : wp (XK k) f18c0 ρ s Q = wp (XK k) f18c1 ρ s (seqP (XK k) f18c2 Q) := n_seq (by kernel_rfl)
theorem f18_in (hk : Closed k) {x0 : Value} {s : St} {Q : Value → St → Prop} (h : wp (XK k) f18c0 (Env.of [x0]) s (rtP (XK k) [.tmp 2] Q)) : WC (XK k) 18 [x0] s Q := WC_in (fn := Tryd.f18) (c := f18c0) (n := 67) (hk _ _ _) (by kernel_rfl) (by kernel_rfl) (by kernel_rfl) (by kernel_rfl) rfl h
def f18N0 := And.intro (@f18n0 k) (And.intro (@f18n1 k) (And.intro (@f18n2 k) (And.intro (@f18n3 k) (And.intro (@f18n4 k) (And.intro (@f18n5 k) (And.intro (@f18n6 k) (And.intro (@f18n7 k) (And.intro (@f18n8 k) (@f18n9 k)))))))))
def f18N1 := And.intro (@f18n10 k) (And.intro (@f18n11 k) (And.intro (@f18n12 k) (And.intro (@f18n13 k) (And.intro (@f18n14 k) (And.intro (@f18n15 k) (And.intro (@f18n16 k) (And.intro (@f18n17 k) (And.intro (@f18n18 k) (@f18n19 k)))))))))
def f18N2 := And.intro (@f18n20 k) (And.intro (@f18n21 k) (And.intro (@f18n22 k) (And.intro (@f18n23 k) (And.intro (@f18n24 k) (And.intro (@f18n25 k) (And.intro (@f18n26 k) (@f18n27 k)))))))
noncomputable def f19c0 : Code := bodyOf Tryd.f19
noncomputable def f19c1 : Code := codeAt f19c0 [0]
noncomputable def f19n1 := @n_region (XK k) f19c1 _ _ _ rfl (by kernel_rfl)
noncomputable def f19c2 : Code := codeAt f19c0 [1]
noncomputable def f19c3 : Code := codeAt f19c0 [1, 0]
noncomputable def f19n3 := @n_region (XK k) f19c3 _ _ _ rfl (by kernel_rfl)
noncomputable def f19c4 : Code := codeAt f19c0 [1, 1]
noncomputable def f19c5 : Code := codeAt f19c0 [1, 1, 0]
noncomputable def f19c6 : Code := codeAt f19c0 [1, 1, 0, 0]
noncomputable def f19n6 := @n_region (XK k) f19c6 _ _ _ rfl (by kernel_rfl)
noncomputable def f19c7 : Code := codeAt f19c0 [1, 1, 0, 1]
noncomputable def f19c8 : Code := codeAt f19c0 [1, 1, 0, 1, 0]
noncomputable def f19c9 : Code := codeAt f19c0 [1, 1, 0, 1, 0, 0]
noncomputable def f19n9 := @n_region (XK k) f19c9 _ _ _ rfl (by kernel_rfl)
noncomputable def f19c10 : Code := codeAt f19c0 [1, 1, 0, 1, 0, 1]
theorem f19n10 {ρ : Env} {s : St} {Q : Xit → Env → St → Prop} : wp (XK k) f19c10 ρ s Q = Q .ret ρ s := n_ret (by kernel_rfl)
theorem f19n8 {ρ : Env} {s : St} {Q : Xit → Env → St → Prop} : wp (XK k) f19c8 ρ s Q = wp (XK k) f19c9 ρ s (seqP (XK k) f19c10 Q) := n_seq (by kernel_rfl)
noncomputable def f19c11 : Code := codeAt f19c0 [1, 1, 0, 1, 1]
theorem f19n11 {ρ : Env} {s : St} {Q : Xit → Env → St → Prop} : wp (XK k) f19c11 ρ s Q = Q .normal ρ s := n_skip (by kernel_rfl)
theorem f19n7 {ρ : Env} {s : St} {Q : Xit → Env → St → Prop} : wp (XK k) f19c7 ρ s Q = condP (XK k) (boolOf (evo ρ (.tmp 23))) f19c8 f19c11 ρ s Q := n_cond (by kernel_rfl)
theorem f19n5 {ρ : Env} {s : St} {Q : Xit → Env → St → Prop} : wp (XK k) f19c5 ρ s Q = wp (XK k) f19c6 ρ s (seqP (XK k) f19c7 Q) := n_seq (by kernel_rfl)
noncomputable def f19c12 : Code := codeAt f19c0 [1, 1, 1]
noncomputable def f19c13 : Code := codeAt f19c0 [1, 1, 1, 0]
noncomputable def f19c14 : Code := codeAt f19c0 [1, 1, 1, 0, 0]
noncomputable def f19n14 := @n_region (XK k) f19c14 _ _ _ rfl (by kernel_rfl)
noncomputable def f19c15 : Code := codeAt f19c0 [1, 1, 1, 0, 1]
noncomputable def f19c16 : Code := codeAt f19c0 [1, 1, 1, 0, 1, 0]
noncomputable def f19c17 : Code := codeAt f19c0 [1, 1, 1, 0, 1, 0, 0]
noncomputable def f19n17 := @n_region (XK k) f19c17 _ _ _ rfl (by kernel_rfl)
noncomputable def f19c18 : Code := codeAt f19c0 [1, 1, 1, 0, 1, 0, 1]
theorem f19n18 {ρ : Env} {s : St} {Q : Xit → Env → St → Prop} : wp (XK k) f19c18 ρ s Q = Q .ret ρ s := n_ret (by kernel_rfl)
theorem f19n16 {ρ : Env} {s : St} {Q : Xit → Env → St → Prop} : wp (XK k) f19c16 ρ s Q = wp (XK k) f19c17 ρ s (seqP (XK k) f19c18 Q) := n_seq (by kernel_rfl)
noncomputable def f19c19 : Code := codeAt f19c0 [1, 1, 1, 0, 1, 1]
theorem f19n19 {ρ : Env} {s : St} {Q : Xit → Env → St → Prop} : wp (XK k) f19c19 ρ s Q = Q .normal ρ s := n_skip (by kernel_rfl)
theorem f19n15 {ρ : Env} {s : St} {Q : Xit → Env → St → Prop} : wp (XK k) f19c15 ρ s Q = condP (XK k) (boolOf (evo ρ (.tmp 65))) f19c16 f19c19 ρ s Q := n_cond (by kernel_rfl)
theorem f19n13 {ρ : Env} {s : St} {Q : Xit → Env → St → Prop} : wp (XK k) f19c13 ρ s Q = wp (XK k) f19c14 ρ s (seqP (XK k) f19c15 Q) := n_seq (by kernel_rfl)
noncomputable def f19c20 : Code := codeAt f19c0 [1, 1, 1, 1]
noncomputable def f19c21 : Code := codeAt f19c0 [1, 1, 1, 1, 0]
noncomputable def f19n21 := @n_region (XK k) f19c21 _ _ _ rfl (by kernel_rfl)
noncomputable def f19c22 : Code := codeAt f19c0 [1, 1, 1, 1, 1]
theorem f19n22 {ρ : Env} {s : St} {Q : Xit → Env → St → Prop} : wp (XK k) f19c22 ρ s Q = Q .ret ρ s := n_ret (by kernel_rfl)
theorem f19n20 {ρ : Env} {s : St} {Q : Xit → Env → St → Prop} : wp (XK k) f19c20 ρ s Q = wp (XK k) f19c21 ρ s (seqP (XK k) f19c22 Q) := n_seq (by kernel_rfl)
theorem f19n12 {ρ : Env} {s : St} {Q : Xit → Env → St → Prop} : wp (XK k) f19c12 ρ s Q = wp (XK k) f19c13 ρ s (seqP (XK k) f19c20 Q) := n_seq (by kernel_rfl)
theorem f19n4 {ρ : Env} {s : St} {Q : Xit → Env → St → Prop} : wp (XK k) f19c4 ρ s Q = wp (XK k) f19c5 ρ s (seqP (XK k) f19c12 Q) := n_seq (by kernel_rfl)
theorem f19n2 {ρ : Env} {s : St} {Q : Xit → Env → St → Prop} : wp (XK k) f19c2 ρ s Q = wp (XK k) f19c3 ρ s (seqP (XK k) f19c4 Q) := n_seq (by kernel_rfl)
theorem f19n0 {ρ : Env} {s : St} {Q : Xit → Env → St → Prop} : wp (XK k) f19c0 ρ s Q = wp (XK k) f19c1 ρ s (seqP (XK k) f19c2 Q) := n_seq (by kernel_rfl)
theorem f19_in (hk : Closed k) {x0 : Value} {s : St} {Q : Value → St → Prop} (h : wp (XK k) f19c0 (Env.of [x0]) s (rtP (XK k) [.tmp 2] Q)) : WC (XK k) 19 [x0] s Q := WC_in (fn := Tryd.f19) (c := f19c0) (n := 66) (hk _ _ _) (by kernel_rfl) (by kernel_rfl) (by kernel_rfl) (by kernel_rfl) rfl h
def f19N0 := And.intro (@f19n0 k) (And.intro (@f19n1 k) (And.intro (@f19n2 k) (And.intro (@f19n3 k) (And.intro (@f19n4 k) (And.intro (@f19n5 k) (And.intro (@f19n6 k) (And.intro (@f19n7 k) (And.intro (@f19n8 k) (@f19n9 k)))))))))
def f19N1 := And.intro (@f19n10 k) (And.intro (@f19n11 k) (And.intro (@f19n12 k) (And.intro (@f19n13 k) (And.intro (@f19n14 k) (And.intro (@f19n15 k) (And.intro (@f19n16 k) (And.intro (@f19n17 k) (And.intro (@f19n18 k) (@f19n19 k)))))))))
def f19N2 := And.intro (@f19n20 k) (And.intro (@f19n21 k) (@f19n22 k))
noncomputable def f23c0 : Code := bodyOf Tryd.f23
noncomputable def f23c1 : Code := codeAt f23c0 [0]
noncomputable def f23n1 := @n_region (XK k) f23c1 _ _ _ rfl (by kernel_rfl)
noncomputable def f23c2 : Code := codeAt f23c0 [1]
noncomputable def f23c3 : Code := codeAt f23c0 [1, 0]
noncomputable def f23c4 : Code := codeAt f23c0 [1, 0, 0]
noncomputable def f23n4 := @n_region (XK k) f23c4 _ _ _ rfl (by kernel_rfl)
noncomputable def f23c5 : Code := codeAt f23c0 [1, 0, 1]
noncomputable def f23c6 : Code := codeAt f23c0 [1, 0, 1, 0]
noncomputable def f23c7 : Code := codeAt f23c0 [1, 0, 1, 0, 0]
noncomputable def f23n7 := @n_region (XK k) f23c7 _ _ _ rfl (by kernel_rfl)
noncomputable def f23c8 : Code := codeAt f23c0 [1, 0, 1, 0, 1]
theorem f23n8 {ρ : Env} {s : St} {Q : Xit → Env → St → Prop} : wp (XK k) f23c8 ρ s Q = Q .ret ρ s := n_ret (by kernel_rfl)
theorem f23n6 {ρ : Env} {s : St} {Q : Xit → Env → St → Prop} : wp (XK k) f23c6 ρ s Q = wp (XK k) f23c7 ρ s (seqP (XK k) f23c8 Q) := n_seq (by kernel_rfl)
noncomputable def f23c9 : Code := codeAt f23c0 [1, 0, 1, 1]
theorem f23n9 {ρ : Env} {s : St} {Q : Xit → Env → St → Prop} : wp (XK k) f23c9 ρ s Q = Q .normal ρ s := n_skip (by kernel_rfl)
theorem f23n5 {ρ : Env} {s : St} {Q : Xit → Env → St → Prop} : wp (XK k) f23c5 ρ s Q = condP (XK k) (boolOf (evo ρ (.tmp 16))) f23c6 f23c9 ρ s Q := n_cond (by kernel_rfl)
theorem f23n3 {ρ : Env} {s : St} {Q : Xit → Env → St → Prop} : wp (XK k) f23c3 ρ s Q = wp (XK k) f23c4 ρ s (seqP (XK k) f23c5 Q) := n_seq (by kernel_rfl)
noncomputable def f23c10 : Code := codeAt f23c0 [1, 1]
noncomputable def f23c11 : Code := codeAt f23c0 [1, 1, 0]
noncomputable def f23n11 := @n_region (XK k) f23c11 _ _ _ rfl (by kernel_rfl)
noncomputable def f23c12 : Code := codeAt f23c0 [1, 1, 1]
theorem f23n12 {ρ : Env} {s : St} {Q : Xit → Env → St → Prop} : wp (XK k) f23c12 ρ s Q = Q .ret ρ s := n_ret (by kernel_rfl)
theorem f23n10 {ρ : Env} {s : St} {Q : Xit → Env → St → Prop} : wp (XK k) f23c10 ρ s Q = wp (XK k) f23c11 ρ s (seqP (XK k) f23c12 Q) := n_seq (by kernel_rfl)
theorem f23n2 {ρ : Env} {s : St} {Q : Xit → Env → St → Prop} : wp (XK k) f23c2 ρ s Q = wp (XK k) f23c3 ρ s (seqP (XK k) f23c10 Q) := n_seq (by kernel_rfl)
theorem f23n0 {ρ : Env} {s : St} {Q : Xit → Env → St → Prop} : wp (XK k) f23c0 ρ s Q = wp (XK k) f23c1 ρ s (seqP (XK k) f23c2 Q) := n_seq (by kernel_rfl)
theorem f23_in (hk : Closed k) {x0 : Value} {s : St} {Q : Value → St → Prop} (h : wp (XK k) f23c0 (Env.of [x0]) s (rtP (XK k) [.tmp 2] Q)) : WC (XK k) 23 [x0] s Q := WC_in (fn := Tryd.f23) (c := f23c0) (n := 23) (hk _ _ _) (by kernel_rfl) (by kernel_rfl) (by kernel_rfl) (by kernel_rfl) rfl h
def f23N0 := And.intro (@f23n0 k) (And.intro (@f23n1 k) (And.intro (@f23n2 k) (And.intro (@f23n3 k) (And.intro (@f23n4 k) (And.intro (@f23n5 k) (And.intro (@f23n6 k) (And.intro (@f23n7 k) (And.intro (@f23n8 k) (@f23n9 k)))))))))
def f23N1 := And.intro (@f23n10 k) (And.intro (@f23n11 k) (@f23n12 k))
noncomputable def f24c0 : Code := bodyOf Tryd.f24
noncomputable def f24c1 : Code := codeAt f24c0 [0]
noncomputable def f24n1 := @n_region (XK k) f24c1 _ _ _ rfl (by kernel_rfl)
noncomputable def f24c2 : Code := codeAt f24c0 [1]
noncomputable def f24c3 : Code := codeAt f24c0 [1, 0]
noncomputable def f24c4 : Code := codeAt f24c0 [1, 0, 0]
noncomputable def f24n4 := @n_region (XK k) f24c4 _ _ _ rfl (by kernel_rfl)
noncomputable def f24c5 : Code := codeAt f24c0 [1, 0, 1]
noncomputable def f24c6 : Code := codeAt f24c0 [1, 0, 1, 0]
noncomputable def f24c7 : Code := codeAt f24c0 [1, 0, 1, 0, 0]
noncomputable def f24n7 := @n_region (XK k) f24c7 _ _ _ rfl (by kernel_rfl)
noncomputable def f24c8 : Code := codeAt f24c0 [1, 0, 1, 0, 1]
theorem f24n8 {ρ : Env} {s : St} {Q : Xit → Env → St → Prop} : wp (XK k) f24c8 ρ s Q = Q .ret ρ s := n_ret (by kernel_rfl)
theorem f24n6 {ρ : Env} {s : St} {Q : Xit → Env → St → Prop} : wp (XK k) f24c6 ρ s Q = wp (XK k) f24c7 ρ s (seqP (XK k) f24c8 Q) := n_seq (by kernel_rfl)
noncomputable def f24c9 : Code := codeAt f24c0 [1, 0, 1, 1]
theorem f24n9 {ρ : Env} {s : St} {Q : Xit → Env → St → Prop} : wp (XK k) f24c9 ρ s Q = Q .normal ρ s := n_skip (by kernel_rfl)
theorem f24n5 {ρ : Env} {s : St} {Q : Xit → Env → St → Prop} : wp (XK k) f24c5 ρ s Q = condP (XK k) (boolOf (evo ρ (.tmp 4))) f24c6 f24c9 ρ s Q := n_cond (by kernel_rfl)
theorem f24n3 {ρ : Env} {s : St} {Q : Xit → Env → St → Prop} : wp (XK k) f24c3 ρ s Q = wp (XK k) f24c4 ρ s (seqP (XK k) f24c5 Q) := n_seq (by kernel_rfl)
noncomputable def f24c10 : Code := codeAt f24c0 [1, 1]
noncomputable def f24c11 : Code := codeAt f24c0 [1, 1, 0]
noncomputable def f24c12 : Code := codeAt f24c0 [1, 1, 0, 0]
noncomputable def f24n12 := @n_region (XK k) f24c12 _ _ _ rfl (by kernel_rfl)
noncomputable def f24c13 : Code := codeAt f24c0 [1, 1, 0, 1]
noncomputable def f24c14 : Code := codeAt f24c0 [1, 1, 0, 1, 0]
noncomputable def f24c15 : Code := codeAt f24c0 [1, 1, 0, 1, 0, 0]
noncomputable def f24n15 := @n_region (XK k) f24c15 _ _ _ rfl (by kernel_rfl)
noncomputable def f24c16 : Code := codeAt f24c0 [1, 1, 0, 1, 0, 1]
theorem f24n16 {ρ : Env} {s : St} {Q : Xit → Env → St → Prop} : wp (XK k) f24c16 ρ s Q = Q .ret ρ s := n_ret (by kernel_rfl)
theorem f24n14 {ρ : Env} {s : St} {Q : Xit → Env → St → Prop} : wp (XK k) f24c14 ρ s Q = wp (XK k) f24c15 ρ s (seqP (XK k) f24c16 Q) := n_seq (by kernel_rfl)
noncomputable def f24c17 : Code := codeAt f24c0 [1, 1, 0, 1, 1]
theorem f24n17 {ρ : Env} {s : St} {Q : Xit → Env → St → Prop} : wp (XK k) f24c17 ρ s Q = Q .normal ρ s := n_skip (by kernel_rfl)
theorem f24n13 {ρ : Env} {s : St} {Q : Xit → Env → St → Prop} : wp (XK k) f24c13 ρ s Q = condP (XK k) (boolOf (evo ρ (.tmp 6))) f24c14 f24c17 ρ s Q := n_cond (by kernel_rfl)
theorem f24n11 {ρ : Env} {s : St} {Q : Xit → Env → St → Prop} : wp (XK k) f24c11 ρ s Q = wp (XK k) f24c12 ρ s (seqP (XK k) f24c13 Q) := n_seq (by kernel_rfl)
noncomputable def f24c18 : Code := codeAt f24c0 [1, 1, 1]
noncomputable def f24c19 : Code := codeAt f24c0 [1, 1, 1, 0]
noncomputable def f24c20 : Code := codeAt f24c0 [1, 1, 1, 0, 0]
noncomputable def f24n20 := @n_region (XK k) f24c20 _ _ _ rfl (by kernel_rfl)
noncomputable def f24c21 : Code := codeAt f24c0 [1, 1, 1, 0, 1]
noncomputable def f24c22 : Code := codeAt f24c0 [1, 1, 1, 0, 1, 0]
noncomputable def f24c23 : Code := codeAt f24c0 [1, 1, 1, 0, 1, 0, 0]
noncomputable def f24n23 := @n_region (XK k) f24c23 _ _ _ rfl (by kernel_rfl)
noncomputable def f24c24 : Code := codeAt f24c0 [1, 1, 1, 0, 1, 0, 1]
theorem f24n24 {ρ : Env} {s : St} {Q : Xit → Env → St → Prop} : wp (XK k) f24c24 ρ s Q = Q .ret ρ s := n_ret (by kernel_rfl)
theorem f24n22 {ρ : Env} {s : St} {Q : Xit → Env → St → Prop} : wp (XK k) f24c22 ρ s Q = wp (XK k) f24c23 ρ s (seqP (XK k) f24c24 Q) := n_seq (by kernel_rfl)
noncomputable def f24c25 : Code := codeAt f24c0 [1, 1, 1, 0, 1, 1]
theorem f24n25 {ρ : Env} {s : St} {Q : Xit → Env → St → Prop} : wp (XK k) f24c25 ρ s Q = Q .normal ρ s := n_skip (by kernel_rfl)
theorem f24n21 {ρ : Env} {s : St} {Q : Xit → Env → St → Prop} : wp (XK k) f24c21 ρ s Q = condP (XK k) (boolOf (evo ρ (.tmp 12))) f24c22 f24c25 ρ s Q := n_cond (by kernel_rfl)
theorem f24n19 {ρ : Env} {s : St} {Q : Xit → Env → St → Prop} : wp (XK k) f24c19 ρ s Q = wp (XK k) f24c20 ρ s (seqP (XK k) f24c21 Q) := n_seq (by kernel_rfl)
noncomputable def f24c26 : Code := codeAt f24c0 [1, 1, 1, 1]
noncomputable def f24c27 : Code := codeAt f24c0 [1, 1, 1, 1, 0]
noncomputable def f24c28 : Code := codeAt f24c0 [1, 1, 1, 1, 0, 0]
noncomputable def f24n28 := @n_region (XK k) f24c28 _ _ _ rfl (by kernel_rfl)
noncomputable def f24c29 : Code := codeAt f24c0 [1, 1, 1, 1, 0, 1]
noncomputable def f24c30 : Code := codeAt f24c0 [1, 1, 1, 1, 0, 1, 0]
noncomputable def f24c31 : Code := codeAt f24c0 [1, 1, 1, 1, 0, 1, 0, 0]
noncomputable def f24n31 := @n_region (XK k) f24c31 _ _ _ rfl (by kernel_rfl)
noncomputable def f24c32 : Code := codeAt f24c0 [1, 1, 1, 1, 0, 1, 0, 1]
theorem f24n32 {ρ : Env} {s : St} {Q : Xit → Env → St → Prop} : wp (XK k) f24c32 ρ s Q = Q .ret ρ s := n_ret (by kernel_rfl)
theorem f24n30 {ρ : Env} {s : St} {Q : Xit → Env → St → Prop} : wp (XK k) f24c30 ρ s Q = wp (XK k) f24c31 ρ s (seqP (XK k) f24c32 Q) := n_seq (by kernel_rfl)
noncomputable def f24c33 : Code := codeAt f24c0 [1, 1, 1, 1, 0, 1, 1]
theorem f24n33 {ρ : Env} {s : St} {Q : Xit → Env → St → Prop} : wp (XK k) f24c33 ρ s Q = Q .normal ρ s := n_skip (by kernel_rfl)
theorem f24n29 {ρ : Env} {s : St} {Q : Xit → Env → St → Prop} : wp (XK k) f24c29 ρ s Q = condP (XK k) (boolOf (evo ρ (.tmp 15))) f24c30 f24c33 ρ s Q := n_cond (by kernel_rfl)
theorem f24n27 {ρ : Env} {s : St} {Q : Xit → Env → St → Prop} : wp (XK k) f24c27 ρ s Q = wp (XK k) f24c28 ρ s (seqP (XK k) f24c29 Q) := n_seq (by kernel_rfl)
noncomputable def f24c34 : Code := codeAt f24c0 [1, 1, 1, 1, 1]
noncomputable def f24c35 : Code := codeAt f24c0 [1, 1, 1, 1, 1, 0]
noncomputable def f24c36 : Code := codeAt f24c0 [1, 1, 1, 1, 1, 0, 0]
noncomputable def f24n36 := @n_region (XK k) f24c36 _ _ _ rfl (by kernel_rfl)
noncomputable def f24c37 : Code := codeAt f24c0 [1, 1, 1, 1, 1, 0, 1]
noncomputable def f24c38 : Code := codeAt f24c0 [1, 1, 1, 1, 1, 0, 1, 0]
noncomputable def f24c39 : Code := codeAt f24c0 [1, 1, 1, 1, 1, 0, 1, 0, 0]
noncomputable def f24n39 := @n_region (XK k) f24c39 _ _ _ rfl (by kernel_rfl)
noncomputable def f24c40 : Code := codeAt f24c0 [1, 1, 1, 1, 1, 0, 1, 0, 1]
theorem f24n40 {ρ : Env} {s : St} {Q : Xit → Env → St → Prop} : wp (XK k) f24c40 ρ s Q = Q .ret ρ s := n_ret (by kernel_rfl)
theorem f24n38 {ρ : Env} {s : St} {Q : Xit → Env → St → Prop} : wp (XK k) f24c38 ρ s Q = wp (XK k) f24c39 ρ s (seqP (XK k) f24c40 Q) := n_seq (by kernel_rfl)
noncomputable def f24c41 : Code := codeAt f24c0 [1, 1, 1, 1, 1, 0, 1, 1]
theorem f24n41 {ρ : Env} {s : St} {Q : Xit → Env → St → Prop} : wp (XK k) f24c41 ρ s Q = Q .normal ρ s := n_skip (by kernel_rfl)
theorem f24n37 {ρ : Env} {s : St} {Q : Xit → Env → St → Prop} : wp (XK k) f24c37 ρ s Q = condP (XK k) (boolOf (evo ρ (.tmp 18))) f24c38 f24c41 ρ s Q := n_cond (by kernel_rfl)
theorem f24n35 {ρ : Env} {s : St} {Q : Xit → Env → St → Prop} : wp (XK k) f24c35 ρ s Q = wp (XK k) f24c36 ρ s (seqP (XK k) f24c37 Q) := n_seq (by kernel_rfl)
noncomputable def f24c42 : Code := codeAt f24c0 [1, 1, 1, 1, 1, 1]
noncomputable def f24c43 : Code := codeAt f24c0 [1, 1, 1, 1, 1, 1, 0]
noncomputable def f24c44 : Code := codeAt f24c0 [1, 1, 1, 1, 1, 1, 0, 0]
noncomputable def f24n44 := @n_region (XK k) f24c44 _ _ _ rfl (by kernel_rfl)
noncomputable def f24c45 : Code := codeAt f24c0 [1, 1, 1, 1, 1, 1, 0, 1]
noncomputable def f24c46 : Code := codeAt f24c0 [1, 1, 1, 1, 1, 1, 0, 1, 0]
noncomputable def f24c47 : Code := codeAt f24c0 [1, 1, 1, 1, 1, 1, 0, 1, 0, 0]
noncomputable def f24n47 := @n_region (XK k) f24c47 _ _ _ rfl (by kernel_rfl)
noncomputable def f24c48 : Code := codeAt f24c0 [1, 1, 1, 1, 1, 1, 0, 1, 0, 1]
theorem f24n48 {ρ : Env} {s : St} {Q : Xit → Env → St → Prop} : wp (XK k) f24c48 ρ s Q = Q .ret ρ s := n_ret (by kernel_rfl)
theorem f24n46 {ρ : Env} {s : St} {Q : Xit → Env → St → Prop} : wp (XK k) f24c46 ρ s Q = wp (XK k) f24c47 ρ s (seqP (XK k) f24c48 Q) := n_seq (by kernel_rfl)
noncomputable def f24c49 : Code := codeAt f24c0 [1, 1, 1, 1, 1, 1, 0, 1, 1]
theorem f24n49 {ρ : Env} {s : St} {Q : Xit → Env → St → Prop} : wp (XK k) f24c49 ρ s Q = Q .normal ρ s := n_skip (by kernel_rfl)
theorem f24n45 {ρ : Env} {s : St} {Q : Xit → Env → St → Prop} : wp (XK k) f24c45 ρ s Q = condP (XK k) (boolOf (evo ρ (.tmp 21))) f24c46 f24c49 ρ s Q := n_cond (by kernel_rfl)
theorem f24n43 {ρ : Env} {s : St} {Q : Xit → Env → St → Prop} : wp (XK k) f24c43 ρ s Q = wp (XK k) f24c44 ρ s (seqP (XK k) f24c45 Q) := n_seq (by kernel_rfl)
noncomputable def f24c50 : Code := codeAt f24c0 [1, 1, 1, 1, 1, 1, 1]
noncomputable def f24c51 : Code := codeAt f24c0 [1, 1, 1, 1, 1, 1, 1, 0]
noncomputable def f24c52 : Code := codeAt f24c0 [1, 1, 1, 1, 1, 1, 1, 0, 0]
noncomputable def f24n52 := @n_region (XK k) f24c52 _ _ _ rfl (by kernel_rfl)
noncomputable def f24c53 : Code := codeAt f24c0 [1, 1, 1, 1, 1, 1, 1, 0, 1]
noncomputable def f24c54 : Code := codeAt f24c0 [1, 1, 1, 1, 1, 1, 1, 0, 1, 0]
noncomputable def f24c55 : Code := codeAt f24c0 [1, 1, 1, 1, 1, 1, 1, 0, 1, 0, 0]
noncomputable def f24n55 := @n_region (XK k) f24c55 _ _ _ rfl (by kernel_rfl)
noncomputable def f24c56 : Code := codeAt f24c0 [1, 1, 1, 1, 1, 1, 1, 0, 1, 0, 1]
theorem f24n56 {ρ : Env} {s : St} {Q : Xit → Env → St → Prop} : wp (XK k) f24c56 ρ s Q = Q .ret ρ s := n_ret (by kernel_rfl)
theorem f24n54 {ρ : Env} {s : St} {Q : Xit → Env → St → Prop} : wp (XK k) f24c54 ρ s Q = wp (XK k) f24c55 ρ s (seqP (XK k) f24c56 Q) := n_seq (by kernel_rfl)
noncomputable def f24c57 : Code := codeAt f24c0 [1, 1, 1, 1, 1, 1, 1, 0, 1, 1]
theorem f24n57 {ρ : Env} {s : St} {Q : Xit → Env → St → Prop} : wp (XK k) f24c57 ρ s Q = Q .normal ρ s := n_skip (by kernel_rfl)
theorem f24n53 {ρ : Env} {s : St} {Q : Xit → Env → St → Prop} : wp (XK k) f24c53 ρ s Q = condP (XK k) (boolOf (evo ρ (.tmp 24))) f24c54 f24c57 ρ s Q := n_cond (by kernel_rfl)
theorem f24n51 {ρ : Env} {s : St} {Q : Xit → Env → St → Prop} : wp (XK k) f24c51 ρ s Q = wp (XK k) f24c52 ρ s (seqP (XK k) f24c53 Q) := n_seq (by kernel_rfl)
noncomputable def f24c58 : Code := codeAt f24c0 [1, 1, 1, 1, 1, 1, 1, 1]
noncomputable def f24c59 : Code := codeAt f24c0 [1, 1, 1, 1, 1, 1, 1, 1, 0]
noncomputable def f24c60 : Code := codeAt f24c0 [1, 1, 1, 1, 1, 1, 1, 1, 0, 0]
noncomputable def f24n60 := @n_region (XK k) f24c60 _ _ _ rfl (by kernel_rfl)
noncomputable def f24c61 : Code := codeAt f24c0 [1, 1, 1, 1, 1, 1, 1, 1, 0, 1]
noncomputable def f24c62 : Code := codeAt f24c0 [1, 1, 1, 1, 1, 1, 1, 1, 0, 1, 0]
noncomputable def f24c63 : Code := codeAt f24c0 [1, 1, 1, 1, 1, 1, 1, 1, 0, 1, 0, 0]
noncomputable def f24n63 := @n_region (XK k) f24c63 _ _ _ rfl (by kernel_rfl)
noncomputable def f24c64 : Code := codeAt f24c0 [1, 1, 1, 1, 1, 1, 1, 1, 0, 1, 0, 1]
theorem f24n64 {ρ : Env} {s : St} {Q : Xit → Env → St → Prop} : wp (XK k) f24c64 ρ s Q = Q .ret ρ s := n_ret (by kernel_rfl)
theorem f24n62 {ρ : Env} {s : St} {Q : Xit → Env → St → Prop} : wp (XK k) f24c62 ρ s Q = wp (XK k) f24c63 ρ s (seqP (XK k) f24c64 Q) := n_seq (by kernel_rfl)
noncomputable def f24c65 : Code := codeAt f24c0 [1, 1, 1, 1, 1, 1, 1, 1, 0, 1, 1]
theorem f24n65 {ρ : Env} {s : St} {Q : Xit → Env → St → Prop} : wp (XK k) f24c65 ρ s Q = Q .normal ρ s := n_skip (by kernel_rfl)
theorem f24n61 {ρ : Env} {s : St} {Q : Xit → Env → St → Prop} : wp (XK k) f24c61 ρ s Q = condP (XK k) (boolOf (evo ρ (.tmp 27))) f24c62 f24c65 ρ s Q := n_cond (by kernel_rfl)
theorem f24n59 {ρ : Env} {s : St} {Q : Xit → Env → St → Prop} : wp (XK k) f24c59 ρ s Q = wp (XK k) f24c60 ρ s (seqP (XK k) f24c61 Q) := n_seq (by kernel_rfl)
noncomputable def f24c66 : Code := codeAt f24c0 [1, 1, 1, 1, 1, 1, 1, 1, 1]
noncomputable def f24c67 : Code := codeAt f24c0 [1, 1, 1, 1, 1, 1, 1, 1, 1, 0]
noncomputable def f24n67 := @n_region (XK k) f24c67 _ _ _ rfl (by kernel_rfl)
noncomputable def f24c68 : Code := codeAt f24c0 [1, 1, 1, 1, 1, 1, 1, 1, 1, 1]
theorem f24n68 {ρ : Env} {s : St} {Q : Xit → Env → St → Prop} : wp (XK k) f24c68 ρ s Q = Q .ret ρ s := n_ret (by kernel_rfl)
theorem f24n66 {ρ : Env} {s : St} {Q : Xit → Env → St → Prop} : wp (XK k) f24c66 ρ s Q = wp (XK k) f24c67 ρ s (seqP (XK k) f24c68 Q) := n_seq (by kernel_rfl)
theorem f24n58 {ρ : Env} {s : St} {Q : Xit → Env → St → Prop} : wp (XK k) f24c58 ρ s Q = wp (XK k) f24c59 ρ s (seqP (XK k) f24c66 Q) := n_seq (by kernel_rfl)
theorem f24n50 {ρ : Env} {s : St} {Q : Xit → Env → St → Prop} : wp (XK k) f24c50 ρ s Q = wp (XK k) f24c51 ρ s (seqP (XK k) f24c58 Q) := n_seq (by kernel_rfl)
theorem f24n42 {ρ : Env} {s : St} {Q : Xit → Env → St → Prop} : wp (XK k) f24c42 ρ s Q = wp (XK k) f24c43 ρ s (seqP (XK k) f24c50 Q) := n_seq (by kernel_rfl)
theorem f24n34 {ρ : Env} {s : St} {Q : Xit → Env → St → Prop} : wp (XK k) f24c34 ρ s Q = wp (XK k) f24c35 ρ s (seqP (XK k) f24c42 Q) := n_seq (by kernel_rfl)
theorem f24n26 {ρ : Env} {s : St} {Q : Xit → Env → St → Prop} : wp (XK k) f24c26 ρ s Q = wp (XK k) f24c27 ρ s (seqP (XK k) f24c34 Q) := n_seq (by kernel_rfl)
theorem f24n18 {ρ : Env} {s : St} {Q : Xit → Env → St → Prop} : wp (XK k) f24c18 ρ s Q = wp (XK k) f24c19 ρ s (seqP (XK k) f24c26 Q) := n_seq (by kernel_rfl)
theorem f24n10 {ρ : Env} {s : St} {Q : Xit → Env → St → Prop} : wp (XK k) f24c10 ρ s Q = wp (XK k) f24c11 ρ s (seqP (XK k) f24c18 Q) := n_seq (by kernel_rfl)
theorem f24n2 {ρ : Env} {s : St} {Q : Xit → Env → St → Prop} : wp (XK k) f24c2 ρ s Q = wp (XK k) f24c3 ρ s (seqP (XK k) f24c10 Q) := n_seq (by kernel_rfl)
theorem f24n0 {ρ : Env} {s : St} {Q : Xit → Env → St → Prop} : wp (XK k) f24c0 ρ s Q = wp (XK k) f24c1 ρ s (seqP (XK k) f24c2 Q) := n_seq (by kernel_rfl)
theorem f24_in (hk : Closed k) {x0 : Value} {s : St} {Q : Value → St → Prop} (h : wp (XK k) f24c0 (Env.of [x0]) s (rtP (XK k) [.tmp 2] Q)) : WC (XK k) 24 [x0] s Q := WC_in (fn := Tryd.f24) (c := f24c0) (n := 28) (hk _ _ _) (by kernel_rfl) (by kernel_rfl) (by kernel_rfl) (by kernel_rfl) rfl h
def f24N0 := And.intro (@f24n0 k) (And.intro (@f24n1 k) (And.intro (@f24n2 k) (And.intro (@f24n3 k) (And.intro (@f24n4 k) (And.intro (@f24n5 k) (And.intro (@f24n6 k) (And.intro (@f24n7 k) (And.intro (@f24n8 k) (@f24n9 k)))))))))
def f24N1 := And.intro (@f24n10 k) (And.intro (@f24n11 k) (And.intro (@f24n12 k) (And.intro (@f24n13 k) (And.intro (@f24n14 k) (And.intro (@f24n15 k) (And.intro (@f24n16 k) (And.intro (@f24n17 k) (And.intro (@f24n18 k) (@f24n19 k)))))))))
def f24N2 := And.intro (@f24n20 k) (And.intro (@f24n21 k) (And.intro (@f24n22 k) (And.intro (@f24n23 k) (And.intro (@f24n24 k) (And.intro (@f24n25 k) (And.intro (@f24n26 k) (And.intro (@f24n27 k) (And.intro (@f24n28 k) (@f24n29 k)))))))))
def f24N3 := And.intro (@f24n30 k) (And.intro (@f24n31 k) (And.intro (@f24n32 k) (And.intro (@f24n33 k) (And.intro (@f24n34 k) (And.intro (@f24n35 k) (And.intro (@f24n36 k) (And.intro (@f24n37 k) (And.intro (@f24n38 k) (@f24n39 k)))))))))
def f24N4 := And.intro (@f24n40 k) (And.intro (@f24n41 k) (And.intro (@f24n42 k) (And.intro (@f24n43 k) (And.intro (@f24n44 k) (And.intro (@f24n45 k) (And.intro (@f24n46 k) (And.intro (@f24n47 k) (And.intro (@f24n48 k) (@f24n49 k)))))))))
def f24N5 := And.intro (@f24n50 k) (And.intro (@f24n51 k) (And.intro (@f24n52 k) (And.intro (@f24n53 k) (And.intro (@f24n54 k) (And.intro (@f24n55 k) (And.intro (@f24n56 k) (And.intro (@f24n57 k) (And.intro (@f24n58 k) (@f24n59 k)))))))))
def f24N6 := And.intro (@f24n60 k) (And.intro (@f24n61 k) (And.intro (@f24n62 k) (And.intro (@f24n63 k) (And.intro (@f24n64 k) (And.intro (@f24n65 k) (And.intro (@f24n66 k) (And.intro (@f24n67 k) (@f24n68 k))))))))
noncomputable def f25c0 : Code := bodyOf Tryd.f25
noncomputable def f25c1 : Code := codeAt f25c0 [0]
noncomputable def f25n1 := @n_region (XK k) f25c1 _ _ _ rfl (by kernel_rfl)
noncomputable def f25c2 : Code := codeAt f25c0 [1]
noncomputable def f25c3 : Code := codeAt f25c0 [1, 0]
noncomputable def f25c4 : Code := codeAt f25c0 [1, 0, 0]
noncomputable def f25n4 := @n_region (XK k) f25c4 _ _ _ rfl (by kernel_rfl)
noncomputable def f25c5 : Code := codeAt f25c0 [1, 0, 1]
noncomputable def f25c6 : Code := codeAt f25c0 [1, 0, 1, 0]
noncomputable def f25c7 : Code := codeAt f25c0 [1, 0, 1, 0, 0]
noncomputable def f25c8 : Code := codeAt f25c0 [1, 0, 1, 0, 0, 0]
noncomputable def f25c9 : Code := codeAt f25c0 [1, 0, 1, 0, 0, 0, 0]
noncomputable def f25n9 := @n_region (XK k) f25c9 _ _ _ rfl (by kernel_rfl)
noncomputable def f25c10 : Code := codeAt f25c0 [1, 0, 1, 0, 0, 0, 1]
noncomputable def f25c11 : Code := codeAt f25c0 [1, 0, 1, 0, 0, 0, 1, 0]
theorem f25n11 {ρ : Env} {s : St} {Q : Xit → Env → St → Prop} : wp (XK k) f25c11 ρ s Q = Q .normal ρ s := n_skip (by kernel_rfl)
noncomputable def f25c12 : Code := codeAt f25c0 [1, 0, 1, 0, 0, 0, 1, 1]
theorem f25n12 {ρ : Env} {s : St} {Q : Xit → Env → St → Prop} : wp (XK k) f25c12 ρ s Q = Q (.exit 0) ρ s := n_exit (by kernel_rfl)
theorem f25n10 {ρ : Env} {s : St} {Q : Xit → Env → St → Prop} : wp (XK k) f25c10 ρ s Q = condP (XK k) (boolOf (evo ρ (.tmp 10))) f25c11 f25c12 ρ s Q := n_cond (by kernel_rfl)
theorem f25n8 {ρ : Env} {s : St} {Q : Xit → Env → St → Prop} : wp (XK k) f25c8 ρ s Q = wp (XK k) f25c9 ρ s (seqP (XK k) f25c10 Q) := n_seq (by kernel_rfl)
noncomputable def f25c13 : Code := codeAt f25c0 [1, 0, 1, 0, 0, 1]
noncomputable def f25c14 : Code := codeAt f25c0 [1, 0, 1, 0, 0, 1, 0]
noncomputable def f25c15 : Code := codeAt f25c0 [1, 0, 1, 0, 0, 1, 0, 0]
noncomputable def f25c16 : Code := codeAt f25c0 [1, 0, 1, 0, 0, 1, 0, 0, 0]
noncomputable def f25n16 := @n_region (XK k) f25c16 _ _ _ rfl (by kernel_rfl)
noncomputable def f25c17 : Code := codeAt f25c0 [1, 0, 1, 0, 0, 1, 0, 0, 1]
noncomputable def f25c18 : Code := codeAt f25c0 [1, 0, 1, 0, 0, 1, 0, 0, 1, 0]
noncomputable def f25c19 : Code := codeAt f25c0 [1, 0, 1, 0, 0, 1, 0, 0, 1, 0, 0]
noncomputable def f25n19 := @n_region (XK k) f25c19 _ _ _ rfl (by kernel_rfl)
noncomputable def f25c20 : Code := codeAt f25c0 [1, 0, 1, 0, 0, 1, 0, 0, 1, 0, 1]
theorem f25n20 {ρ : Env} {s : St} {Q : Xit → Env → St → Prop} : wp (XK k) f25c20 ρ s Q = Q .ret ρ s := n_ret (by kernel_rfl)
theorem f25n18 {ρ : Env} {s : St} {Q : Xit → Env → St → Prop} : wp (XK k) f25c18 ρ s Q = wp (XK k) f25c19 ρ s (seqP (XK k) f25c20 Q) := n_seq (by kernel_rfl)
noncomputable def f25c21 : Code := codeAt f25c0 [1, 0, 1, 0, 0, 1, 0, 0, 1, 1]
theorem f25n21 {ρ : Env} {s : St} {Q : Xit → Env → St → Prop} : wp (XK k) f25c21 ρ s Q = Q .normal ρ s := n_skip (by kernel_rfl)
theorem f25n17 {ρ : Env} {s : St} {Q : Xit → Env → St → Prop} : wp (XK k) f25c17 ρ s Q = condP (XK k) (boolOf (evo ρ (.tmp 27))) f25c18 f25c21 ρ s Q := n_cond (by kernel_rfl)
theorem f25n15 {ρ : Env} {s : St} {Q : Xit → Env → St → Prop} : wp (XK k) f25c15 ρ s Q = wp (XK k) f25c16 ρ s (seqP (XK k) f25c17 Q) := n_seq (by kernel_rfl)
theorem f25n14 {ρ : Env} {s : St} {Q : Xit → Env → St → Prop} : wp (XK k) f25c14 ρ s Q = wp (XK k) f25c15 ρ s (blockQ 1 Q) := n_block (by kernel_rfl)
noncomputable def f25c22 : Code := codeAt f25c0 [1, 0, 1, 0, 0, 1, 1]
noncomputable def f25n22 := @n_region (XK k) f25c22 _ _ _ rfl (by kernel_rfl)
theorem f25n13 {ρ : Env} {s : St} {Q : Xit → Env → St → Prop} : wp (XK k) f25c13 ρ s Q = wp (XK k) f25c14 ρ s (seqP (XK k) f25c22 Q) := n_seq (by kernel_rfl)
theorem f25n7 {ρ : Env} {s : St} {Q : Xit → Env → St → Prop} : wp (XK k) f25c7 ρ s Q = wp (XK k) f25c8 ρ s (seqP (XK k) f25c13 Q) := n_seq (by kernel_rfl)
theorem f25n6 {ρ : Env} {s : St} {Q : Xit → Env → St → Prop} : wp (XK k) f25c6 ρ s Q = W (XK k) (.loop f25c7) ρ s Q := n_loop (by kernel_rfl)
theorem f25n5 {ρ : Env} {s : St} {Q : Xit → Env → St → Prop} : wp (XK k) f25c5 ρ s Q = wp (XK k) f25c6 ρ s (blockQ 0 Q) := n_block (by kernel_rfl)
theorem f25n3 {ρ : Env} {s : St} {Q : Xit → Env → St → Prop} : wp (XK k) f25c3 ρ s Q = wp (XK k) f25c4 ρ s (seqP (XK k) f25c5 Q) := n_seq (by kernel_rfl)
noncomputable def f25c23 : Code := codeAt f25c0 [1, 1]
noncomputable def f25c24 : Code := codeAt f25c0 [1, 1, 0]
noncomputable def f25n24 := @n_region (XK k) f25c24 _ _ _ rfl (by kernel_rfl)
noncomputable def f25c25 : Code := codeAt f25c0 [1, 1, 1]
theorem f25n25 {ρ : Env} {s : St} {Q : Xit → Env → St → Prop} : wp (XK k) f25c25 ρ s Q = Q .ret ρ s := n_ret (by kernel_rfl)
theorem f25n23 {ρ : Env} {s : St} {Q : Xit → Env → St → Prop} : wp (XK k) f25c23 ρ s Q = wp (XK k) f25c24 ρ s (seqP (XK k) f25c25 Q) := n_seq (by kernel_rfl)
theorem f25n2 {ρ : Env} {s : St} {Q : Xit → Env → St → Prop} : wp (XK k) f25c2 ρ s Q = wp (XK k) f25c3 ρ s (seqP (XK k) f25c23 Q) := n_seq (by kernel_rfl)
theorem f25n0 {ρ : Env} {s : St} {Q : Xit → Env → St → Prop} : wp (XK k) f25c0 ρ s Q = wp (XK k) f25c1 ρ s (seqP (XK k) f25c2 Q) := n_seq (by kernel_rfl)
theorem f25_in (hk : Closed k) {x0 : Value} {x1 : Value} {s : St} {Q : Value → St → Prop} (h : wp (XK k) f25c0 (Env.of [x0, x1]) s (rtP (XK k) [.tmp 4] Q)) : WC (XK k) 25 [x0, x1] s Q := WC_in (fn := Tryd.f25) (c := f25c0) (n := 28) (hk _ _ _) (by kernel_rfl) (by kernel_rfl) (by kernel_rfl) (by kernel_rfl) rfl h
def f25N0 := And.intro (@f25n0 k) (And.intro (@f25n1 k) (And.intro (@f25n2 k) (And.intro (@f25n3 k) (And.intro (@f25n4 k) (And.intro (@f25n5 k) (And.intro (@f25n6 k) (And.intro (@f25n7 k) (And.intro (@f25n8 k) (@f25n9 k)))))))))
def f25N1 := And.intro (@f25n10 k) (And.intro (@f25n11 k) (And.intro (@f25n12 k) (And.intro (@f25n13 k) (And.intro (@f25n14 k) (And.intro (@f25n15 k) (And.intro (@f25n16 k) (And.intro (@f25n17 k) (And.intro (@f25n18 k) (@f25n19 k)))))))))
def f25N2 := And.intro (@f25n20 k) (And.intro (@f25n21 k) (And.intro (@f25n22 k) (And.intro (@f25n23 k) (And.intro (@f25n24 k) (@f25n25 k)))))
noncomputable def f26c0 : Code := bodyOf Tryd.f26
noncomputable def f26c1 : Code := codeAt f26c0 [0]
noncomputable def f26n1 := @n_region (XK k) f26c1 _ _ _ rfl (by kernel_rfl)
noncomputable def f26c2 : Code := codeAt f26c0 [1]
noncomputable def f26c3 : Code := codeAt f26c0 [1, 0]
noncomputable def f26c4 : Code := codeAt f26c0 [1, 0, 0]
noncomputable def f26n4 := @n_region (XK k) f26c4 _ _ _ rfl (by kernel_rfl)
noncomputable def f26c5 : Code := codeAt f26c0 [1, 0, 1]
noncomputable def f26c6 : Code := codeAt f26c0 [1, 0, 1, 0]
noncomputable def f26c7 : Code := codeAt f26c0 [1, 0, 1, 0, 0]
noncomputable def f26c8 : Code := codeAt f26c0 [1, 0, 1, 0, 0, 0]
noncomputable def f26c9 : Code := codeAt f26c0 [1, 0, 1, 0, 0, 0, 0]
noncomputable def f26n9 := @n_region (XK k) f26c9 _ _ _ rfl (by kernel_rfl)
noncomputable def f26c10 : Code := codeAt f26c0 [1, 0, 1, 0, 0, 0, 1]
noncomputable def f26c11 : Code := codeAt f26c0 [1, 0, 1, 0, 0, 0, 1, 0]
theorem f26n11 {ρ : Env} {s : St} {Q : Xit → Env → St → Prop} : wp (XK k) f26c11 ρ s Q = Q .normal ρ s := n_skip (by kernel_rfl)
noncomputable def f26c12 : Code := codeAt f26c0 [1, 0, 1, 0, 0, 0, 1, 1]
theorem f26n12 {ρ : Env} {s : St} {Q : Xit → Env → St → Prop} : wp (XK k) f26c12 ρ s Q = Q (.exit 0) ρ s := n_exit (by kernel_rfl)
theorem f26n10 {ρ : Env} {s : St} {Q : Xit → Env → St → Prop} : wp (XK k) f26c10 ρ s Q = condP (XK k) (boolOf (evo ρ (.tmp 6))) f26c11 f26c12 ρ s Q := n_cond (by kernel_rfl)
theorem f26n8 {ρ : Env} {s : St} {Q : Xit → Env → St → Prop} : wp (XK k) f26c8 ρ s Q = wp (XK k) f26c9 ρ s (seqP (XK k) f26c10 Q) := n_seq (by kernel_rfl)
noncomputable def f26c13 : Code := codeAt f26c0 [1, 0, 1, 0, 0, 1]
noncomputable def f26c14 : Code := codeAt f26c0 [1, 0, 1, 0, 0, 1, 0]
noncomputable def f26c15 : Code := codeAt f26c0 [1, 0, 1, 0, 0, 1, 0, 0]
noncomputable def f26c16 : Code := codeAt f26c0 [1, 0, 1, 0, 0, 1, 0, 0, 0]
noncomputable def f26n16 := @n_region (XK k) f26c16 _ _ _ rfl (by kernel_rfl)
noncomputable def f26c17 : Code := codeAt f26c0 [1, 0, 1, 0, 0, 1, 0, 0, 1]
noncomputable def f26c18 : Code := codeAt f26c0 [1, 0, 1, 0, 0, 1, 0, 0, 1, 0]
noncomputable def f26c19 : Code := codeAt f26c0 [1, 0, 1, 0, 0, 1, 0, 0, 1, 0, 0]
noncomputable def f26n19 := @n_region (XK k) f26c19 _ _ _ rfl (by kernel_rfl)
noncomputable def f26c20 : Code := codeAt f26c0 [1, 0, 1, 0, 0, 1, 0, 0, 1, 0, 1]
theorem f26n20 {ρ : Env} {s : St} {Q : Xit → Env → St → Prop} : wp (XK k) f26c20 ρ s Q = Q .ret ρ s := n_ret (by kernel_rfl)
theorem f26n18 {ρ : Env} {s : St} {Q : Xit → Env → St → Prop} : wp (XK k) f26c18 ρ s Q = wp (XK k) f26c19 ρ s (seqP (XK k) f26c20 Q) := n_seq (by kernel_rfl)
noncomputable def f26c21 : Code := codeAt f26c0 [1, 0, 1, 0, 0, 1, 0, 0, 1, 1]
theorem f26n21 {ρ : Env} {s : St} {Q : Xit → Env → St → Prop} : wp (XK k) f26c21 ρ s Q = Q .normal ρ s := n_skip (by kernel_rfl)
theorem f26n17 {ρ : Env} {s : St} {Q : Xit → Env → St → Prop} : wp (XK k) f26c17 ρ s Q = condP (XK k) (boolOf (evo ρ (.tmp 14))) f26c18 f26c21 ρ s Q := n_cond (by kernel_rfl)
theorem f26n15 {ρ : Env} {s : St} {Q : Xit → Env → St → Prop} : wp (XK k) f26c15 ρ s Q = wp (XK k) f26c16 ρ s (seqP (XK k) f26c17 Q) := n_seq (by kernel_rfl)
theorem f26n14 {ρ : Env} {s : St} {Q : Xit → Env → St → Prop} : wp (XK k) f26c14 ρ s Q = wp (XK k) f26c15 ρ s (blockQ 1 Q) := n_block (by kernel_rfl)
noncomputable def f26c22 : Code := codeAt f26c0 [1, 0, 1, 0, 0, 1, 1]
noncomputable def f26n22 := @n_region (XK k) f26c22 _ _ _ rfl (by kernel_rfl)
theorem f26n13 {ρ : Env} {s : St} {Q : Xit → Env → St → Prop} : wp (XK k) f26c13 ρ s Q = wp (XK k) f26c14 ρ s (seqP (XK k) f26c22 Q) := n_seq (by kernel_rfl)
theorem f26n7 {ρ : Env} {s : St} {Q : Xit → Env → St → Prop} : wp (XK k) f26c7 ρ s Q = wp (XK k) f26c8 ρ s (seqP (XK k) f26c13 Q) := n_seq (by kernel_rfl)
theorem f26n6 {ρ : Env} {s : St} {Q : Xit → Env → St → Prop} : wp (XK k) f26c6 ρ s Q = W (XK k) (.loop f26c7) ρ s Q := n_loop (by kernel_rfl)
theorem f26n5 {ρ : Env} {s : St} {Q : Xit → Env → St → Prop} : wp (XK k) f26c5 ρ s Q = wp (XK k) f26c6 ρ s (blockQ 0 Q) := n_block (by kernel_rfl)
theorem f26n3 {ρ : Env} {s : St} {Q : Xit → Env → St → Prop} : wp (XK k) f26c3 ρ s Q = wp (XK k) f26c4 ρ s (seqP (XK k) f26c5 Q) := n_seq (by kernel_rfl)
noncomputable def f26c23 : Code := codeAt f26c0 [1, 1]
noncomputable def f26c24 : Code := codeAt f26c0 [1, 1, 0]
noncomputable def f26n24 := @n_region (XK k) f26c24 _ _ _ rfl (by kernel_rfl)
noncomputable def f26c25 : Code := codeAt f26c0 [1, 1, 1]
theorem f26n25 {ρ : Env} {s : St} {Q : Xit → Env → St → Prop} : wp (XK k) f26c25 ρ s Q = Q .ret ρ s := n_ret (by kernel_rfl)
theorem f26n23 {ρ : Env} {s : St} {Q : Xit → Env → St → Prop} : wp (XK k) f26c23 ρ s Q = wp (XK k) f26c24 ρ s (seqP (XK k) f26c25 Q) := n_seq (by kernel_rfl)
theorem f26n2 {ρ : Env} {s : St} {Q : Xit → Env → St → Prop} : wp (XK k) f26c2 ρ s Q = wp (XK k) f26c3 ρ s (seqP (XK k) f26c23 Q) := n_seq (by kernel_rfl)
theorem f26n0 {ρ : Env} {s : St} {Q : Xit → Env → St → Prop} : wp (XK k) f26c0 ρ s Q = wp (XK k) f26c1 ρ s (seqP (XK k) f26c2 Q) := n_seq (by kernel_rfl)
theorem f26_in (hk : Closed k) {x0 : Value} {s : St} {Q : Value → St → Prop} (h : wp (XK k) f26c0 (Env.of [x0]) s (rtP (XK k) [.tmp 2, .tmp 3] Q)) : WC (XK k) 26 [x0] s Q := WC_in (fn := Tryd.f26) (c := f26c0) (n := 20) (hk _ _ _) (by kernel_rfl) (by kernel_rfl) (by kernel_rfl) (by kernel_rfl) rfl h
def f26N0 := And.intro (@f26n0 k) (And.intro (@f26n1 k) (And.intro (@f26n2 k) (And.intro (@f26n3 k) (And.intro (@f26n4 k) (And.intro (@f26n5 k) (And.intro (@f26n6 k) (And.intro (@f26n7 k) (And.intro (@f26n8 k) (@f26n9 k)))))))))
def f26N1 := And.intro (@f26n10 k) (And.intro (@f26n11 k) (And.intro (@f26n12 k) (And.intro (@f26n13 k) (And.intro (@f26n14 k) (And.intro (@f26n15 k) (And.intro (@f26n16 k) (And.intro (@f26n17 k) (And.intro (@f26n18 k) (@f26n19 k)))))))))
def f26N2 := And.intro (@f26n20 k) (And.intro (@f26n21 k) (And.intro (@f26n22 k) (And.intro (@f26n23 k) (And.intro (@f26n24 k) (@f26n25 k)))))
noncomputable def f27c0 : Code := bodyOf Tryd.f27
noncomputable def f27c1 : Code := codeAt f27c0 [0]
noncomputable def f27n1 := @n_region (XK k) f27c1 _ _ _ rfl (by kernel_rfl)
noncomputable def f27c2 : Code := codeAt f27c0 [1]
noncomputable def f27c3 : Code := codeAt f27c0 [1, 0]
noncomputable def f27c4 : Code := codeAt f27c0 [1, 0, 0]
noncomputable def f27n4 := @n_region (XK k) f27c4 _ _ _ rfl (by kernel_rfl)
noncomputable def f27c5 : Code := codeAt f27c0 [1, 0, 1]
noncomputable def f27c6 : Code := codeAt f27c0 [1, 0, 1, 0]
noncomputable def f27c7 : Code := codeAt f27c0 [1, 0, 1, 0, 0]
noncomputable def f27n7 := @n_region (XK k) f27c7 _ _ _ rfl (by kernel_rfl)
noncomputable def f27c8 : Code := codeAt f27c0 [1, 0, 1, 0, 1]
theorem f27n8 {ρ : Env} {s : St} {Q : Xit → Env → St → Prop} : wp (XK k) f27c8 ρ s Q = Q .ret ρ s := n_ret (by kernel_rfl)
theorem f27n6 {ρ : Env} {s : St} {Q : Xit → Env → St → Prop} : wp (XK k) f27c6 ρ s Q = wp (XK k) f27c7 ρ s (seqP (XK k) f27c8 Q) := n_seq (by kernel_rfl)
noncomputable def f27c9 : Code := codeAt f27c0 [1, 0, 1, 1]
theorem f27n9 {ρ : Env} {s : St} {Q : Xit → Env → St → Prop} : wp (XK k) f27c9 ρ s Q = Q .normal ρ s := n_skip (by kernel_rfl)
theorem f27n5 {ρ : Env} {s : St} {Q : Xit → Env → St → Prop} : wp (XK k) f27c5 ρ s Q = condP (XK k) (boolOf (evo ρ (.tmp 8))) f27c6 f27c9 ρ s Q := n_cond (by kernel_rfl)
theorem f27n3 {ρ : Env} {s : St} {Q : Xit → Env → St → Prop} : wp (XK k) f27c3 ρ s Q = wp (XK k) f27c4 ρ s (seqP (XK k) f27c5 Q) := n_seq (by kernel_rfl)
noncomputable def f27c10 : Code := codeAt f27c0 [1, 1]
noncomputable def f27c11 : Code := codeAt f27c0 [1, 1, 0]
noncomputable def f27n11 := @n_region (XK k) f27c11 _ _ _ rfl (by kernel_rfl)
noncomputable def f27c12 : Code := codeAt f27c0 [1, 1, 1]
theorem f27n12 {ρ : Env} {s : St} {Q : Xit → Env → St → Prop} : wp (XK k) f27c12 ρ s Q = Q .ret ρ s := n_ret (by kernel_rfl)
theorem f27n10 {ρ : Env} {s : St} {Q : Xit → Env → St → Prop} : wp (XK k) f27c10 ρ s Q = wp (XK k) f27c11 ρ s (seqP (XK k) f27c12 Q) := n_seq (by kernel_rfl)
theorem f27n2 {ρ : Env} {s : St} {Q : Xit → Env → St → Prop} : wp (XK k) f27c2 ρ s Q = wp (XK k) f27c3 ρ s (seqP (XK k) f27c10 Q) := n_seq (by kernel_rfl)
theorem f27n0 {ρ : Env} {s : St} {Q : Xit → Env → St → Prop} : wp (XK k) f27c0 ρ s Q = wp (XK k) f27c1 ρ s (seqP (XK k) f27c2 Q) := n_seq (by kernel_rfl)
theorem f27_in (hk : Closed k) {x0 : Value} {s : St} {Q : Value → St → Prop} (h : wp (XK k) f27c0 (Env.of [x0]) s (rtP (XK k) [.tmp 2] Q)) : WC (XK k) 27 [x0] s Q := WC_in (fn := Tryd.f27) (c := f27c0) (n := 21) (hk _ _ _) (by kernel_rfl) (by kernel_rfl) (by kernel_rfl) (by kernel_rfl) rfl h
def f27N0 := And.intro (@f27n0 k) (And.intro (@f27n1 k) (And.intro (@f27n2 k) (And.intro (@f27n3 k) (And.intro (@f27n4 k) (And.intro (@f27n5 k) (And.intro (@f27n6 k) (And.intro (@f27n7 k) (And.intro (@f27n8 k) (@f27n9 k)))))))))
def f27N1 := And.intro (@f27n10 k) (And.intro (@f27n11 k) (@f27n12 k))
noncomputable def f28c0 : Code := bodyOf Tryd.f28
noncomputable def f28c1 : Code := codeAt f28c0 [0]
noncomputable def f28n1 := @n_region (XK k) f28c1 _ _ _ rfl (by kernel_rfl)
noncomputable def f28c2 : Code := codeAt f28c0 [1]
noncomputable def f28c3 : Code := codeAt f28c0 [1, 0]
noncomputable def f28n3 := @n_region (XK k) f28c3 _ _ _ rfl (by kernel_rfl)
noncomputable def f28c4 : Code := codeAt f28c0 [1, 1]
theorem f28n4 {ρ : Env} {s : St} {Q : Xit → Env → St → Prop} : wp (XK k) f28c4 ρ s Q = Q .ret ρ s := n_ret (by kernel_rfl)
theorem f28n2 {ρ : Env} {s : St} {Q : Xit → Env → St → Prop} : wp (XK k) f28c2 ρ s Q = wp (XK k) f28c3 ρ s (seqP (XK k) f28c4 Q) := n_seq (by kernel_rfl)
theorem f28n0 {ρ : Env} {s : St} {Q : Xit → Env → St → Prop} : wp (XK k) f28c0 ρ s Q = wp (XK k) f28c1 ρ s (seqP (XK k) f28c2 Q) := n_seq (by kernel_rfl)
theorem f28_in (hk : Closed k) {x0 : Value} {s : St} {Q : Value → St → Prop} (h : wp (XK k) f28c0 (Env.of [x0]) s (rtP (XK k) [.tmp 2] Q)) : WC (XK k) 28 [x0] s Q := WC_in (fn := Tryd.f28) (c := f28c0) (n := 4) (hk _ _ _) (by kernel_rfl) (by kernel_rfl) (by kernel_rfl) (by kernel_rfl) rfl h
def f28N0 := And.intro (@f28n0 k) (And.intro (@f28n1 k) (And.intro (@f28n2 k) (And.intro (@f28n3 k) (@f28n4 k))))
noncomputable def f41c0 : Code := bodyOf Tryd.f41
noncomputable def f41c1 : Code := codeAt f41c0 [0]
noncomputable def f41n1 := @n_region (XK k) f41c1 _ _ _ rfl (by kernel_rfl)
noncomputable def f41c2 : Code := codeAt f41c0 [1]
noncomputable def f41c3 : Code := codeAt f41c0 [1, 0]
noncomputable def f41c4 : Code := codeAt f41c0 [1, 0, 0]
noncomputable def f41n4 := @n_region (XK k) f41c4 _ _ _ rfl (by kernel_rfl)
noncomputable def f41c5 : Code := codeAt f41c0 [1, 0, 1]
noncomputable def f41c6 : Code := codeAt f41c0 [1, 0, 1, 0]
noncomputable def f41c7 : Code := codeAt f41c0 [1, 0, 1, 0, 0]
noncomputable def f41c8 : Code := codeAt f41c0 [1, 0, 1, 0, 0, 0]
noncomputable def f41c9 : Code := codeAt f41c0 [1, 0, 1, 0, 0, 0, 0]
noncomputable def f41n9 := @n_region (XK k) f41c9 _ _ _ rfl (by kernel_rfl)
noncomputable def f41c10 : Code := codeAt f41c0 [1, 0, 1, 0, 0, 0, 1]
noncomputable def f41c11 : Code := codeAt f41c0 [1, 0, 1, 0, 0, 0, 1, 0]
theorem f41n11 {ρ : Env} {s : St} {Q : Xit → Env → St → Prop} : wp (XK k) f41c11 ρ s Q = Q .normal ρ s := n_skip (by kernel_rfl)
noncomputable def f41c12 : Code := codeAt f41c0 [1, 0, 1, 0, 0, 0, 1, 1]
theorem f41n12 {ρ : Env} {s : St} {Q : Xit → Env → St → Prop} : wp (XK k) f41c12 ρ s Q = Q (.exit 0) ρ s := n_exit (by kernel_rfl)
theorem f41n10 {ρ : Env} {s : St} {Q : Xit → Env → St → Prop} : wp (XK k) f41c10 ρ s Q = condP (XK k) (boolOf (evo ρ (.tmp 7))) f41c11 f41c12 ρ s Q := n_cond (by kernel_rfl)
theorem f41n8 {ρ : Env} {s : St} {Q : Xit → Env → St → Prop} : wp (XK k) f41c8 ρ s Q = wp (XK k) f41c9 ρ s (seqP (XK k) f41c10 Q) := n_seq (by kernel_rfl)
noncomputable def f41c13 : Code := codeAt f41c0 [1, 0, 1, 0, 0, 1]
noncomputable def f41c14 : Code := codeAt f41c0 [1, 0, 1, 0, 0, 1, 0]
noncomputable def f41c15 : Code := codeAt f41c0 [1, 0, 1, 0, 0, 1, 0, 0]
noncomputable def f41c16 : Code := codeAt f41c0 [1, 0, 1, 0, 0, 1, 0, 0, 0]
noncomputable def f41n16 := @n_region (XK k) f41c16 _ _ _ rfl (by kernel_rfl)
noncomputable def f41c17 : Code := codeAt f41c0 [1, 0, 1, 0, 0, 1, 0, 0, 1]
noncomputable def f41c18 : Code := codeAt f41c0 [1, 0, 1, 0, 0, 1, 0, 0, 1, 0]
noncomputable def f41n18 := @n_region (XK k) f41c18 _ _ _ rfl (by kernel_rfl)
noncomputable def f41c19 : Code := codeAt f41c0 [1, 0, 1, 0, 0, 1, 0, 0, 1, 1]
noncomputable def f41c20 : Code := codeAt f41c0 [1, 0, 1, 0, 0, 1, 0, 0, 1, 1, 0]
noncomputable def f41c21 : Code := codeAt f41c0 [1, 0, 1, 0, 0, 1, 0, 0, 1, 1, 0, 0]
noncomputable def f41n21 := @n_region (XK k) f41c21 _ _ _ rfl (by kernel_rfl)
noncomputable def f41c22 : Code := codeAt f41c0 [1, 0, 1, 0, 0, 1, 0, 0, 1, 1, 0, 1]
theorem f41n22 {ρ : Env} {s : St} {Q : Xit → Env → St → Prop} : wp (XK k) f41c22 ρ s Q = Q .ret ρ s := n_ret (by kernel_rfl)
theorem f41n20 {ρ : Env} {s : St} {Q : Xit → Env → St → Prop} : wp (XK k) f41c20 ρ s Q = wp (XK k) f41c21 ρ s (seqP (XK k) f41c22 Q) := n_seq (by kernel_rfl)
noncomputable def f41c23 : Code := codeAt f41c0 [1, 0, 1, 0, 0, 1, 0, 0, 1, 1, 1]
theorem f41n23 {ρ : Env} {s : St} {Q : Xit → Env → St → Prop} : wp (XK k) f41c23 ρ s Q = Q .normal ρ s := n_skip (by kernel_rfl)
theorem f41n19 {ρ : Env} {s : St} {Q : Xit → Env → St → Prop} : wp (XK k) f41c19 ρ s Q = condP (XK k) (boolOf (evo ρ (.tmp 34))) f41c20 f41c23 ρ s Q := n_cond (by kernel_rfl)
theorem f41n17 {ρ : Env} {s : St} {Q : Xit → Env → St → Prop} : wp (XK k) f41c17 ρ s Q = wp (XK k) f41c18 ρ s (seqP (XK k) f41c19 Q) := n_seq (by kernel_rfl)
theorem f41n15 {ρ : Env} {s : St} {Q : Xit → Env → St → Prop} : wp (XK k) f41c15 ρ s Q = wp (XK k) f41c16 ρ s (seqP (XK k) f41c17 Q) := n_seq (by kernel_rfl)
theorem f41n14 {ρ : Env} {s : St} {Q : Xit → Env → St → Prop} : wp (XK k) f41c14 ρ s Q = wp (XK k) f41c15 ρ s (blockQ 1 Q) := n_block (by kernel_rfl)
noncomputable def f41c24 : Code := codeAt f41c0 [1, 0, 1, 0, 0, 1, 1]
noncomputable def f41n24 := @n_region (XK k) f41c24 _ _ _ rfl (by kernel_rfl)
theorem f41n13 {ρ : Env} {s : St} {Q : Xit → Env → St → Prop} : wp (XK k) f41c13 ρ s Q = wp (XK k) f41c14 ρ s (seqP (XK k) f41c24 Q) := n_seq (by kernel_rfl)
theorem f41n7 {ρ : Env} {s : St} {Q : Xit → Env → St → Prop} : wp (XK k) f41c7 ρ s Q = wp (XK k) f41c8 ρ s (seqP (XK k) f41c13 Q) := n_seq (by kernel_rfl)
theorem f41n6 {ρ : Env} {s : St} {Q : Xit → Env → St → Prop} : wp (XK k) f41c6 ρ s Q = W (XK k) (.loop f41c7) ρ s Q := n_loop (by kernel_rfl)
theorem f41n5 {ρ : Env} {s : St} {Q : Xit → Env → St → Prop} : wp (XK k) f41c5 ρ s Q = wp (XK k) f41c6 ρ s (blockQ 0 Q) := n_block (by kernel_rfl)
theorem f41n3 {ρ : Env} {s : St} {Q : Xit → Env → St → Prop} : wp (XK k) f41c3 ρ s Q = wp (XK k) f41c4 ρ s (seqP (XK k) f41c5 Q) := n_seq (by kernel_rfl)
noncomputable def f41c25 : Code := codeAt f41c0 [1, 1]
noncomputable def f41c26 : Code := codeAt f41c0 [1, 1, 0]
noncomputable def f41n26 := @n_region (XK k) f41c26 _ _ _ rfl (by kernel_rfl)
noncomputable def f41c27 : Code := codeAt f41c0 [1, 1, 1]
theorem f41n27 {ρ : Env} {s : St} {Q : Xit → Env → St → Prop} : wp (XK k) f41c27 ρ s Q = Q .ret ρ s := n_ret (by kernel_rfl)
theorem f41n25 {ρ : Env} {s : St} {Q : Xit → Env → St → Prop} : wp (XK k) f41c25 ρ s Q = wp (XK k) f41c26 ρ s (seqP (XK k) f41c27 Q) := n_seq (by kernel_rfl)
theorem f41n2 {ρ : Env} {s : St} {Q : Xit → Env → St → Prop} : wp (XK k) f41c2 ρ s Q = wp (XK k) f41c3 ρ s (seqP (XK k) f41c25 Q) := n_seq (by kernel_rfl)
theorem f41n0 {ρ : Env} {s : St} {Q : Xit → Env → St → Prop} : wp (XK k) f41c0 ρ s Q = wp (XK k) f41c1 ρ s (seqP (XK k) f41c2 Q) := n_seq (by kernel_rfl)
theorem f41_in (hk : Closed k) {x0 : Value} {x1 : Value} {s : St} {Q : Value → St → Prop} (h : wp (XK k) f41c0 (Env.of [x0, x1]) s (rtP (XK k) [.tmp 3] Q)) : WC (XK k) 41 [x0, x1] s Q := WC_in (fn := Tryd.f41) (c := f41c0) (n := 36) (hk _ _ _) (by kernel_rfl) (by kernel_rfl) (by kernel_rfl) (by kernel_rfl) rfl h
def f41N0 := And.intro (@f41n0 k) (And.intro (@f41n1 k) (And.intro (@f41n2 k) (And.intro (@f41n3 k) (And.intro (@f41n4 k) (And.intro (@f41n5 k) (And.intro (@f41n6 k) (And.intro (@f41n7 k) (And.intro (@f41n8 k) (@f41n9 k)))))))))
def f41N1 := And.intro (@f41n10 k) (And.intro (@f41n11 k) (And.intro (@f41n12 k) (And.intro (@f41n13 k) (And.intro (@f41n14 k) (And.intro (@f41n15 k) (And.intro (@f41n16 k) (And.intro (@f41n17 k) (And.intro (@f41n18 k) (@f41n19 k)))))))))
def f41N2 := And.intro (@f41n20 k) (And.intro (@f41n21 k) (And.intro (@f41n22 k) (And.intro (@f41n23 k) (And.intro (@f41n24 k) (And.intro (@f41n25 k) (And.intro (@f41n26 k) (@f41n27 k)))))))
noncomputable def f29c0 : Code := bodyOf Tryd.f29
noncomputable def f29c1 : Code := codeAt f29c0 [0]
noncomputable def f29n1 := @n_region (XK k) f29c1 _ _ _ rfl (by kernel_rfl)
noncomputable def f29c2 : Code := codeAt f29c0 [1]
noncomputable def f29c3 : Code := codeAt f29c0 [1, 0]
noncomputable def f29n3 := @n_region (XK k) f29c3 _ _ _ rfl (by kernel_rfl)
noncomputable def f29c4 : Code := codeAt f29c0 [1, 1]
theorem f29n4 {ρ : Env} {s : St} {Q : Xit → Env → St → Prop} : wp (XK k) f29c4 ρ s Q = Q .ret ρ s := n_ret (by kernel_rfl)
theorem f29n2 {ρ : Env} {s : St} {Q : Xit → Env → St → Prop} : wp (XK k) f29c2 ρ s Q = wp (XK k) f29c3 ρ s (seqP (XK k) f29c4 Q) := n_seq (by kernel_rfl)
theorem f29n0 {ρ : Env} {s : St} {Q : Xit → Env → St → Prop} : wp (XK k) f29c0 ρ s Q = wp (XK k) f29c1 ρ s (seqP (XK k) f29c2 Q) := n_seq (by kernel_rfl)
theorem f29_in (hk : Closed k) {x0 : Value} {s : St} {Q : Value → St → Prop} (h : wp (XK k) f29c0 (Env.of [x0]) s (rtP (XK k) [.tmp 2] Q)) : WC (XK k) 29 [x0] s Q := WC_in (fn := Tryd.f29) (c := f29c0) (n := 5) (hk _ _ _) (by kernel_rfl) (by kernel_rfl) (by kernel_rfl) (by kernel_rfl) rfl h
def f29N0 := And.intro (@f29n0 k) (And.intro (@f29n1 k) (And.intro (@f29n2 k) (And.intro (@f29n3 k) (@f29n4 k))))
noncomputable def f30c0 : Code := bodyOf Tryd.f30
noncomputable def f30c1 : Code := codeAt f30c0 [0]
noncomputable def f30n1 := @n_region (XK k) f30c1 _ _ _ rfl (by kernel_rfl)
noncomputable def f30c2 : Code := codeAt f30c0 [1]
noncomputable def f30c3 : Code := codeAt f30c0 [1, 0]
noncomputable def f30n3 := @n_region (XK k) f30c3 _ _ _ rfl (by kernel_rfl)
noncomputable def f30c4 : Code := codeAt f30c0 [1, 1]
theorem f30n4 {ρ : Env} {s : St} {Q : Xit → Env → St → Prop} : wp (XK k) f30c4 ρ s Q = Q .ret ρ s := n_ret (by kernel_rfl)
theorem f30n2 {ρ : Env} {s : St} {Q : Xit → Env → St → Prop} : wp (XK k) f30c2 ρ s Q = wp (XK k) f30c3 ρ s (seqP (XK k) f30c4 Q) := n_seq (by kernel_rfl)
theorem f30n0 {ρ : Env} {s : St} {Q : Xit → Env → St → Prop} : wp (XK k) f30c0 ρ s Q = wp (XK k) f30c1 ρ s (seqP (XK k) f30c2 Q) := n_seq (by kernel_rfl)
theorem f30_in (hk : Closed k) {x0 : Value} {s : St} {Q : Value → St → Prop} (h : wp (XK k) f30c0 (Env.of [x0]) s (rtP (XK k) [.tmp 2] Q)) : WC (XK k) 30 [x0] s Q := WC_in (fn := Tryd.f30) (c := f30c0) (n := 5) (hk _ _ _) (by kernel_rfl) (by kernel_rfl) (by kernel_rfl) (by kernel_rfl) rfl h
def f30N0 := And.intro (@f30n0 k) (And.intro (@f30n1 k) (And.intro (@f30n2 k) (And.intro (@f30n3 k) (@f30n4 k))))
end
end Go.Proofs.YtndedkpcfjnecaaDoor.Ab
