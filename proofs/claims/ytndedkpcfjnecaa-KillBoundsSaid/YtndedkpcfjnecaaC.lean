/- The places of this seat's code, by names. Written by mkcode.py. -/
import Derived.Test.YtndedkpcfjnecaaV
import Derived.Test.YtndedkpcfjnecaaT
namespace Go.Proofs.Ytndedkpcfjnecaa.Ab
open Go.Proofs
set_option maxRecDepth 100000
set_option linter.unusedVariables false
set_option linter.defProp false
section
variable {k : Nat → List Value → Option Value}
noncomputable def f4c0 : Code := bodyOf Try.f4
noncomputable def f4c1 : Code := codeAt f4c0 [0]
noncomputable def f4n1 := @n_region (XK k) f4c1 _ _ _ rfl (by kernel_rfl)
noncomputable def f4c2 : Code := codeAt f4c0 [1]
noncomputable def f4c3 : Code := codeAt f4c0 [1, 0]
noncomputable def f4c4 : Code := codeAt f4c0 [1, 0, 0]
noncomputable def f4n4 := @n_region (XK k) f4c4 _ _ _ rfl (by kernel_rfl)
noncomputable def f4c5 : Code := codeAt f4c0 [1, 0, 1]
noncomputable def f4c6 : Code := codeAt f4c0 [1, 0, 1, 0]
noncomputable def f4c7 : Code := codeAt f4c0 [1, 0, 1, 0, 0]
noncomputable def f4n7 := @n_region (XK k) f4c7 _ _ _ rfl (by kernel_rfl)
noncomputable def f4c8 : Code := codeAt f4c0 [1, 0, 1, 0, 1]
theorem f4n8 {ρ : Env} {s : St} {Q : Xit → Env → St → Prop} : wp (XK k) f4c8 ρ s Q = Q .ret ρ s := n_ret (by kernel_rfl)
theorem f4n6 {ρ : Env} {s : St} {Q : Xit → Env → St → Prop} : wp (XK k) f4c6 ρ s Q = wp (XK k) f4c7 ρ s (seqP (XK k) f4c8 Q) := n_seq (by kernel_rfl)
noncomputable def f4c9 : Code := codeAt f4c0 [1, 0, 1, 1]
theorem f4n9 {ρ : Env} {s : St} {Q : Xit → Env → St → Prop} : wp (XK k) f4c9 ρ s Q = Q .normal ρ s := n_skip (by kernel_rfl)
theorem f4n5 {ρ : Env} {s : St} {Q : Xit → Env → St → Prop} : wp (XK k) f4c5 ρ s Q = condP (XK k) (boolOf (evo ρ (.tmp 13))) f4c6 f4c9 ρ s Q := n_cond (by kernel_rfl)
theorem f4n3 {ρ : Env} {s : St} {Q : Xit → Env → St → Prop} : wp (XK k) f4c3 ρ s Q = wp (XK k) f4c4 ρ s (seqP (XK k) f4c5 Q) := n_seq (by kernel_rfl)
noncomputable def f4c10 : Code := codeAt f4c0 [1, 1]
noncomputable def f4c11 : Code := codeAt f4c0 [1, 1, 0]
noncomputable def f4n11 := @n_region (XK k) f4c11 _ _ _ rfl (by kernel_rfl)
noncomputable def f4c12 : Code := codeAt f4c0 [1, 1, 1]
noncomputable def f4c13 : Code := codeAt f4c0 [1, 1, 1, 0]
noncomputable def f4c14 : Code := codeAt f4c0 [1, 1, 1, 0, 0]
noncomputable def f4n14 := @n_region (XK k) f4c14 _ _ _ rfl (by kernel_rfl)
noncomputable def f4c15 : Code := codeAt f4c0 [1, 1, 1, 0, 1]
noncomputable def f4c16 : Code := codeAt f4c0 [1, 1, 1, 0, 1, 0]
noncomputable def f4c17 : Code := codeAt f4c0 [1, 1, 1, 0, 1, 0, 0]
noncomputable def f4n17 := @n_region (XK k) f4c17 _ _ _ rfl (by kernel_rfl)
noncomputable def f4c18 : Code := codeAt f4c0 [1, 1, 1, 0, 1, 0, 1]
theorem f4n18 {ρ : Env} {s : St} {Q : Xit → Env → St → Prop} : wp (XK k) f4c18 ρ s Q = Q .ret ρ s := n_ret (by kernel_rfl)
theorem f4n16 {ρ : Env} {s : St} {Q : Xit → Env → St → Prop} : wp (XK k) f4c16 ρ s Q = wp (XK k) f4c17 ρ s (seqP (XK k) f4c18 Q) := n_seq (by kernel_rfl)
noncomputable def f4c19 : Code := codeAt f4c0 [1, 1, 1, 0, 1, 1]
theorem f4n19 {ρ : Env} {s : St} {Q : Xit → Env → St → Prop} : wp (XK k) f4c19 ρ s Q = Q .normal ρ s := n_skip (by kernel_rfl)
theorem f4n15 {ρ : Env} {s : St} {Q : Xit → Env → St → Prop} : wp (XK k) f4c15 ρ s Q = condP (XK k) (boolOf (evo ρ (.tmp 24))) f4c16 f4c19 ρ s Q := n_cond (by kernel_rfl)
theorem f4n13 {ρ : Env} {s : St} {Q : Xit → Env → St → Prop} : wp (XK k) f4c13 ρ s Q = wp (XK k) f4c14 ρ s (seqP (XK k) f4c15 Q) := n_seq (by kernel_rfl)
noncomputable def f4c20 : Code := codeAt f4c0 [1, 1, 1, 1]
noncomputable def f4c21 : Code := codeAt f4c0 [1, 1, 1, 1, 0]
noncomputable def f4c22 : Code := codeAt f4c0 [1, 1, 1, 1, 0, 0]
noncomputable def f4n22 := @n_region (XK k) f4c22 _ _ _ rfl (by kernel_rfl)
noncomputable def f4c23 : Code := codeAt f4c0 [1, 1, 1, 1, 0, 1]
noncomputable def f4c24 : Code := codeAt f4c0 [1, 1, 1, 1, 0, 1, 0]
noncomputable def f4c25 : Code := codeAt f4c0 [1, 1, 1, 1, 0, 1, 0, 0]
noncomputable def f4n25 := @n_region (XK k) f4c25 _ _ _ rfl (by kernel_rfl)
noncomputable def f4c26 : Code := codeAt f4c0 [1, 1, 1, 1, 0, 1, 0, 1]
theorem f4n26 {ρ : Env} {s : St} {Q : Xit → Env → St → Prop} : wp (XK k) f4c26 ρ s Q = Q .ret ρ s := n_ret (by kernel_rfl)
theorem f4n24 {ρ : Env} {s : St} {Q : Xit → Env → St → Prop} : wp (XK k) f4c24 ρ s Q = wp (XK k) f4c25 ρ s (seqP (XK k) f4c26 Q) := n_seq (by kernel_rfl)
noncomputable def f4c27 : Code := codeAt f4c0 [1, 1, 1, 1, 0, 1, 1]
theorem f4n27 {ρ : Env} {s : St} {Q : Xit → Env → St → Prop} : wp (XK k) f4c27 ρ s Q = Q .normal ρ s := n_skip (by kernel_rfl)
theorem f4n23 {ρ : Env} {s : St} {Q : Xit → Env → St → Prop} : wp (XK k) f4c23 ρ s Q = condP (XK k) (boolOf (evo ρ (.tmp 36))) f4c24 f4c27 ρ s Q := n_cond (by kernel_rfl)
theorem f4n21 {ρ : Env} {s : St} {Q : Xit → Env → St → Prop} : wp (XK k) f4c21 ρ s Q = wp (XK k) f4c22 ρ s (seqP (XK k) f4c23 Q) := n_seq (by kernel_rfl)
noncomputable def f4c28 : Code := codeAt f4c0 [1, 1, 1, 1, 1]
noncomputable def f4c29 : Code := codeAt f4c0 [1, 1, 1, 1, 1, 0]
noncomputable def f4n29 := @n_region (XK k) f4c29 _ _ _ rfl (by kernel_rfl)
noncomputable def f4c30 : Code := codeAt f4c0 [1, 1, 1, 1, 1, 1]
noncomputable def f4c31 : Code := codeAt f4c0 [1, 1, 1, 1, 1, 1, 0]
noncomputable def f4c32 : Code := codeAt f4c0 [1, 1, 1, 1, 1, 1, 0, 0]
noncomputable def f4n32 := @n_region (XK k) f4c32 _ _ _ rfl (by kernel_rfl)
noncomputable def f4c33 : Code := codeAt f4c0 [1, 1, 1, 1, 1, 1, 0, 1]
noncomputable def f4c34 : Code := codeAt f4c0 [1, 1, 1, 1, 1, 1, 0, 1, 0]
noncomputable def f4c35 : Code := codeAt f4c0 [1, 1, 1, 1, 1, 1, 0, 1, 0, 0]
noncomputable def f4c36 : Code := codeAt f4c0 [1, 1, 1, 1, 1, 1, 0, 1, 0, 0, 0]
noncomputable def f4c37 : Code := codeAt f4c0 [1, 1, 1, 1, 1, 1, 0, 1, 0, 0, 0, 0]
noncomputable def f4n37 := @n_region (XK k) f4c37 _ _ _ rfl (by kernel_rfl)
noncomputable def f4c38 : Code := codeAt f4c0 [1, 1, 1, 1, 1, 1, 0, 1, 0, 0, 0, 1]
noncomputable def f4c39 : Code := codeAt f4c0 [1, 1, 1, 1, 1, 1, 0, 1, 0, 0, 0, 1, 0]
theorem f4n39 {ρ : Env} {s : St} {Q : Xit → Env → St → Prop} : wp (XK k) f4c39 ρ s Q = Q .normal ρ s := n_skip (by kernel_rfl)
noncomputable def f4c40 : Code := codeAt f4c0 [1, 1, 1, 1, 1, 1, 0, 1, 0, 0, 0, 1, 1]
theorem f4n40 {ρ : Env} {s : St} {Q : Xit → Env → St → Prop} : wp (XK k) f4c40 ρ s Q = Q (.exit 0) ρ s := n_exit (by kernel_rfl)
theorem f4n38 {ρ : Env} {s : St} {Q : Xit → Env → St → Prop} : wp (XK k) f4c38 ρ s Q = condP (XK k) (boolOf (evo ρ (.tmp 44))) f4c39 f4c40 ρ s Q := n_cond (by kernel_rfl)
theorem f4n36 {ρ : Env} {s : St} {Q : Xit → Env → St → Prop} : wp (XK k) f4c36 ρ s Q = wp (XK k) f4c37 ρ s (seqP (XK k) f4c38 Q) := n_seq (by kernel_rfl)
noncomputable def f4c41 : Code := codeAt f4c0 [1, 1, 1, 1, 1, 1, 0, 1, 0, 0, 1]
noncomputable def f4c42 : Code := codeAt f4c0 [1, 1, 1, 1, 1, 1, 0, 1, 0, 0, 1, 0]
noncomputable def f4c43 : Code := codeAt f4c0 [1, 1, 1, 1, 1, 1, 0, 1, 0, 0, 1, 0, 0]
noncomputable def f4c44 : Code := codeAt f4c0 [1, 1, 1, 1, 1, 1, 0, 1, 0, 0, 1, 0, 0, 0]
noncomputable def f4n44 := @n_region (XK k) f4c44 _ _ _ rfl (by kernel_rfl)
noncomputable def f4c45 : Code := codeAt f4c0 [1, 1, 1, 1, 1, 1, 0, 1, 0, 0, 1, 0, 0, 1]
noncomputable def f4c46 : Code := codeAt f4c0 [1, 1, 1, 1, 1, 1, 0, 1, 0, 0, 1, 0, 0, 1, 0]
noncomputable def f4c47 : Code := codeAt f4c0 [1, 1, 1, 1, 1, 1, 0, 1, 0, 0, 1, 0, 0, 1, 0, 0]
noncomputable def f4n47 := @n_region (XK k) f4c47 _ _ _ rfl (by kernel_rfl)
noncomputable def f4c48 : Code := codeAt f4c0 [1, 1, 1, 1, 1, 1, 0, 1, 0, 0, 1, 0, 0, 1, 0, 1]
noncomputable def f4c49 : Code := codeAt f4c0 [1, 1, 1, 1, 1, 1, 0, 1, 0, 0, 1, 0, 0, 1, 0, 1, 0]
noncomputable def f4c50 : Code := codeAt f4c0 [1, 1, 1, 1, 1, 1, 0, 1, 0, 0, 1, 0, 0, 1, 0, 1, 0, 0]
noncomputable def f4n50 := @n_region (XK k) f4c50 _ _ _ rfl (by kernel_rfl)
noncomputable def f4c51 : Code := codeAt f4c0 [1, 1, 1, 1, 1, 1, 0, 1, 0, 0, 1, 0, 0, 1, 0, 1, 0, 1]
theorem f4n51 {ρ : Env} {s : St} {Q : Xit → Env → St → Prop} : wp (XK k) f4c51 ρ s Q = Q .ret ρ s := n_ret (by kernel_rfl)
theorem f4n49 {ρ : Env} {s : St} {Q : Xit → Env → St → Prop} : wp (XK k) f4c49 ρ s Q = wp (XK k) f4c50 ρ s (seqP (XK k) f4c51 Q) := n_seq (by kernel_rfl)
noncomputable def f4c52 : Code := codeAt f4c0 [1, 1, 1, 1, 1, 1, 0, 1, 0, 0, 1, 0, 0, 1, 0, 1, 1]
theorem f4n52 {ρ : Env} {s : St} {Q : Xit → Env → St → Prop} : wp (XK k) f4c52 ρ s Q = Q .normal ρ s := n_skip (by kernel_rfl)
theorem f4n48 {ρ : Env} {s : St} {Q : Xit → Env → St → Prop} : wp (XK k) f4c48 ρ s Q = condP (XK k) (boolOf (evo ρ (.tmp 54))) f4c49 f4c52 ρ s Q := n_cond (by kernel_rfl)
theorem f4n46 {ρ : Env} {s : St} {Q : Xit → Env → St → Prop} : wp (XK k) f4c46 ρ s Q = wp (XK k) f4c47 ρ s (seqP (XK k) f4c48 Q) := n_seq (by kernel_rfl)
noncomputable def f4c53 : Code := codeAt f4c0 [1, 1, 1, 1, 1, 1, 0, 1, 0, 0, 1, 0, 0, 1, 1]
noncomputable def f4c54 : Code := codeAt f4c0 [1, 1, 1, 1, 1, 1, 0, 1, 0, 0, 1, 0, 0, 1, 1, 0]
noncomputable def f4c55 : Code := codeAt f4c0 [1, 1, 1, 1, 1, 1, 0, 1, 0, 0, 1, 0, 0, 1, 1, 0, 0]
noncomputable def f4n55 := @n_region (XK k) f4c55 _ _ _ rfl (by kernel_rfl)
noncomputable def f4c56 : Code := codeAt f4c0 [1, 1, 1, 1, 1, 1, 0, 1, 0, 0, 1, 0, 0, 1, 1, 0, 1]
noncomputable def f4c57 : Code := codeAt f4c0 [1, 1, 1, 1, 1, 1, 0, 1, 0, 0, 1, 0, 0, 1, 1, 0, 1, 0]
noncomputable def f4c58 : Code := codeAt f4c0 [1, 1, 1, 1, 1, 1, 0, 1, 0, 0, 1, 0, 0, 1, 1, 0, 1, 0, 0]
noncomputable def f4c59 : Code := codeAt f4c0 [1, 1, 1, 1, 1, 1, 0, 1, 0, 0, 1, 0, 0, 1, 1, 0, 1, 0, 0, 0]
noncomputable def f4n59 := @n_regionD (XK k) f4c59 _ _ _ [(2, []), (1, []), (2, [1]), (2, [1]), (2, [1]), (2, [1]), (2, [])] rfl (by kernel_rfl) (by kernel_rfl) (by kernel_rfl)
noncomputable def f4c60 : Code := codeAt f4c0 [1, 1, 1, 1, 1, 1, 0, 1, 0, 0, 1, 0, 0, 1, 1, 0, 1, 0, 0, 1]
noncomputable def f4c61 : Code := codeAt f4c0 [1, 1, 1, 1, 1, 1, 0, 1, 0, 0, 1, 0, 0, 1, 1, 0, 1, 0, 0, 1, 0]
noncomputable def f4c62 : Code := codeAt f4c0 [1, 1, 1, 1, 1, 1, 0, 1, 0, 0, 1, 0, 0, 1, 1, 0, 1, 0, 0, 1, 0, 0]
noncomputable def f4n62 := @n_region (XK k) f4c62 _ _ _ rfl (by kernel_rfl)
noncomputable def f4c63 : Code := codeAt f4c0 [1, 1, 1, 1, 1, 1, 0, 1, 0, 0, 1, 0, 0, 1, 1, 0, 1, 0, 0, 1, 0, 1]
theorem f4n63 {ρ : Env} {s : St} {Q : Xit → Env → St → Prop} : wp (XK k) f4c63 ρ s Q = Q .ret ρ s := n_ret (by kernel_rfl)
theorem f4n61 {ρ : Env} {s : St} {Q : Xit → Env → St → Prop} : wp (XK k) f4c61 ρ s Q = wp (XK k) f4c62 ρ s (seqP (XK k) f4c63 Q) := n_seq (by kernel_rfl)
noncomputable def f4c64 : Code := codeAt f4c0 [1, 1, 1, 1, 1, 1, 0, 1, 0, 0, 1, 0, 0, 1, 1, 0, 1, 0, 0, 1, 1]
theorem f4n64 {ρ : Env} {s : St} {Q : Xit → Env → St → Prop} : wp (XK k) f4c64 ρ s Q = Q .normal ρ s := n_skip (by kernel_rfl)
theorem f4n60 {ρ : Env} {s : St} {Q : Xit → Env → St → Prop} : wp (XK k) f4c60 ρ s Q = condP (XK k) (boolOf (evo ρ (.tmp 64))) f4c61 f4c64 ρ s Q := n_cond (by kernel_rfl)
theorem f4n58 {ρ : Env} {s : St} {Q : Xit → Env → St → Prop} : wp (XK k) f4c58 ρ s Q = wp (XK k) f4c59 ρ s (seqP (XK k) f4c60 Q) := n_seq (by kernel_rfl)
noncomputable def f4c65 : Code := codeAt f4c0 [1, 1, 1, 1, 1, 1, 0, 1, 0, 0, 1, 0, 0, 1, 1, 0, 1, 0, 1]
noncomputable def f4n65 := @n_region (XK k) f4c65 _ _ _ rfl (by kernel_rfl)
theorem f4n57 {ρ : Env} {s : St} {Q : Xit → Env → St → Prop} : wp (XK k) f4c57 ρ s Q = wp (XK k) f4c58 ρ s (seqP (XK k) f4c65 Q) := n_seq (by kernel_rfl)
noncomputable def f4c66 : Code := codeAt f4c0 [1, 1, 1, 1, 1, 1, 0, 1, 0, 0, 1, 0, 0, 1, 1, 0, 1, 1]
noncomputable def f4c67 : Code := codeAt f4c0 [1, 1, 1, 1, 1, 1, 0, 1, 0, 0, 1, 0, 0, 1, 1, 0, 1, 1, 0]
noncomputable def f4n67 := @n_region (XK k) f4c67 _ _ _ rfl (by kernel_rfl)
noncomputable def f4c68 : Code := codeAt f4c0 [1, 1, 1, 1, 1, 1, 0, 1, 0, 0, 1, 0, 0, 1, 1, 0, 1, 1, 1]
noncomputable def f4c69 : Code := codeAt f4c0 [1, 1, 1, 1, 1, 1, 0, 1, 0, 0, 1, 0, 0, 1, 1, 0, 1, 1, 1, 0]
noncomputable def f4n69 := @n_region (XK k) f4c69 _ _ _ rfl (by kernel_rfl)
noncomputable def f4c70 : Code := codeAt f4c0 [1, 1, 1, 1, 1, 1, 0, 1, 0, 0, 1, 0, 0, 1, 1, 0, 1, 1, 1, 1]
noncomputable def f4c71 : Code := codeAt f4c0 [1, 1, 1, 1, 1, 1, 0, 1, 0, 0, 1, 0, 0, 1, 1, 0, 1, 1, 1, 1, 0]
noncomputable def f4c72 : Code := codeAt f4c0 [1, 1, 1, 1, 1, 1, 0, 1, 0, 0, 1, 0, 0, 1, 1, 0, 1, 1, 1, 1, 0, 0]
noncomputable def f4n72 := @n_region (XK k) f4c72 _ _ _ rfl (by kernel_rfl)
noncomputable def f4c73 : Code := codeAt f4c0 [1, 1, 1, 1, 1, 1, 0, 1, 0, 0, 1, 0, 0, 1, 1, 0, 1, 1, 1, 1, 0, 1]
noncomputable def f4c74 : Code := codeAt f4c0 [1, 1, 1, 1, 1, 1, 0, 1, 0, 0, 1, 0, 0, 1, 1, 0, 1, 1, 1, 1, 0, 1, 0]
noncomputable def f4c75 : Code := codeAt f4c0 [1, 1, 1, 1, 1, 1, 0, 1, 0, 0, 1, 0, 0, 1, 1, 0, 1, 1, 1, 1, 0, 1, 0, 0]
noncomputable def f4n75 := @n_region (XK k) f4c75 _ _ _ rfl (by kernel_rfl)
noncomputable def f4c76 : Code := codeAt f4c0 [1, 1, 1, 1, 1, 1, 0, 1, 0, 0, 1, 0, 0, 1, 1, 0, 1, 1, 1, 1, 0, 1, 0, 1]
theorem f4n76 {ρ : Env} {s : St} {Q : Xit → Env → St → Prop} : wp (XK k) f4c76 ρ s Q = Q .ret ρ s := n_ret (by kernel_rfl)
theorem f4n74 {ρ : Env} {s : St} {Q : Xit → Env → St → Prop} : wp (XK k) f4c74 ρ s Q = wp (XK k) f4c75 ρ s (seqP (XK k) f4c76 Q) := n_seq (by kernel_rfl)
noncomputable def f4c77 : Code := codeAt f4c0 [1, 1, 1, 1, 1, 1, 0, 1, 0, 0, 1, 0, 0, 1, 1, 0, 1, 1, 1, 1, 0, 1, 1]
theorem f4n77 {ρ : Env} {s : St} {Q : Xit → Env → St → Prop} : wp (XK k) f4c77 ρ s Q = Q .normal ρ s := n_skip (by kernel_rfl)
theorem f4n73 {ρ : Env} {s : St} {Q : Xit → Env → St → Prop} : wp (XK k) f4c73 ρ s Q = condP (XK k) (boolOf (evo ρ (.tmp 99))) f4c74 f4c77 ρ s Q := n_cond (by kernel_rfl)
theorem f4n71 {ρ : Env} {s : St} {Q : Xit → Env → St → Prop} : wp (XK k) f4c71 ρ s Q = wp (XK k) f4c72 ρ s (seqP (XK k) f4c73 Q) := n_seq (by kernel_rfl)
noncomputable def f4c78 : Code := codeAt f4c0 [1, 1, 1, 1, 1, 1, 0, 1, 0, 0, 1, 0, 0, 1, 1, 0, 1, 1, 1, 1, 1]
noncomputable def f4c79 : Code := codeAt f4c0 [1, 1, 1, 1, 1, 1, 0, 1, 0, 0, 1, 0, 0, 1, 1, 0, 1, 1, 1, 1, 1, 0]
noncomputable def f4n79 := @n_region (XK k) f4c79 _ _ _ rfl (by kernel_rfl)
noncomputable def f4c80 : Code := codeAt f4c0 [1, 1, 1, 1, 1, 1, 0, 1, 0, 0, 1, 0, 0, 1, 1, 0, 1, 1, 1, 1, 1, 1]
noncomputable def f4c81 : Code := codeAt f4c0 [1, 1, 1, 1, 1, 1, 0, 1, 0, 0, 1, 0, 0, 1, 1, 0, 1, 1, 1, 1, 1, 1, 0]
noncomputable def f4n81 := @n_region (XK k) f4c81 _ _ _ rfl (by kernel_rfl)
noncomputable def f4c82 : Code := codeAt f4c0 [1, 1, 1, 1, 1, 1, 0, 1, 0, 0, 1, 0, 0, 1, 1, 0, 1, 1, 1, 1, 1, 1, 1]
theorem f4n82 {ρ : Env} {s : St} {Q : Xit → Env → St → Prop} : wp (XK k) f4c82 ρ s Q = Q .normal ρ s := n_skip (by kernel_rfl)
theorem f4n80 {ρ : Env} {s : St} {Q : Xit → Env → St → Prop} : wp (XK k) f4c80 ρ s Q = condP (XK k) (boolOf (evo ρ (.tmp 101))) f4c81 f4c82 ρ s Q := n_cond (by kernel_rfl)
theorem f4n78 {ρ : Env} {s : St} {Q : Xit → Env → St → Prop} : wp (XK k) f4c78 ρ s Q = wp (XK k) f4c79 ρ s (seqP (XK k) f4c80 Q) := n_seq (by kernel_rfl)
theorem f4n70 {ρ : Env} {s : St} {Q : Xit → Env → St → Prop} : wp (XK k) f4c70 ρ s Q = wp (XK k) f4c71 ρ s (seqP (XK k) f4c78 Q) := n_seq (by kernel_rfl)
theorem f4n68 {ρ : Env} {s : St} {Q : Xit → Env → St → Prop} : wp (XK k) f4c68 ρ s Q = wp (XK k) f4c69 ρ s (seqP (XK k) f4c70 Q) := n_seq (by kernel_rfl)
theorem f4n66 {ρ : Env} {s : St} {Q : Xit → Env → St → Prop} : wp (XK k) f4c66 ρ s Q = wp (XK k) f4c67 ρ s (seqP (XK k) f4c68 Q) := n_seq (by kernel_rfl)
theorem f4n56 {ρ : Env} {s : St} {Q : Xit → Env → St → Prop} : wp (XK k) f4c56 ρ s Q = condP (XK k) (boolOf (evo ρ (.tmp 57))) f4c57 f4c66 ρ s Q := n_cond (by kernel_rfl)
theorem f4n54 {ρ : Env} {s : St} {Q : Xit → Env → St → Prop} : wp (XK k) f4c54 ρ s Q = wp (XK k) f4c55 ρ s (seqP (XK k) f4c56 Q) := n_seq (by kernel_rfl)
noncomputable def f4c83 : Code := codeAt f4c0 [1, 1, 1, 1, 1, 1, 0, 1, 0, 0, 1, 0, 0, 1, 1, 1]
noncomputable def f4c84 : Code := codeAt f4c0 [1, 1, 1, 1, 1, 1, 0, 1, 0, 0, 1, 0, 0, 1, 1, 1, 0]
noncomputable def f4n84 := @n_regionD (XK k) f4c84 _ _ _ [(2, []), (1, []), (2, [1]), (2, [1]), (2, [1]), (2, []), (2, []), (2, []), (1, []), (2, [8]), (1, []), (1, []), (2, []), (2, []), (2, []), (2, []), (1, []), (2, [16]), (2, [16]), (1, []), (2, []), (2, [])] rfl (by kernel_rfl) (by kernel_rfl) (by kernel_rfl)
noncomputable def f4c85 : Code := codeAt f4c0 [1, 1, 1, 1, 1, 1, 0, 1, 0, 0, 1, 0, 0, 1, 1, 1, 1]
noncomputable def f4c86 : Code := codeAt f4c0 [1, 1, 1, 1, 1, 1, 0, 1, 0, 0, 1, 0, 0, 1, 1, 1, 1, 0]
noncomputable def f4c87 : Code := codeAt f4c0 [1, 1, 1, 1, 1, 1, 0, 1, 0, 0, 1, 0, 0, 1, 1, 1, 1, 0, 0]
noncomputable def f4n87 := @n_region (XK k) f4c87 _ _ _ rfl (by kernel_rfl)
noncomputable def f4c88 : Code := codeAt f4c0 [1, 1, 1, 1, 1, 1, 0, 1, 0, 0, 1, 0, 0, 1, 1, 1, 1, 0, 1]
theorem f4n88 {ρ : Env} {s : St} {Q : Xit → Env → St → Prop} : wp (XK k) f4c88 ρ s Q = Q .ret ρ s := n_ret (by kernel_rfl)
theorem f4n86 {ρ : Env} {s : St} {Q : Xit → Env → St → Prop} : wp (XK k) f4c86 ρ s Q = wp (XK k) f4c87 ρ s (seqP (XK k) f4c88 Q) := n_seq (by kernel_rfl)
noncomputable def f4c89 : Code := codeAt f4c0 [1, 1, 1, 1, 1, 1, 0, 1, 0, 0, 1, 0, 0, 1, 1, 1, 1, 1]
theorem f4n89 {ρ : Env} {s : St} {Q : Xit → Env → St → Prop} : wp (XK k) f4c89 ρ s Q = Q .normal ρ s := n_skip (by kernel_rfl)
theorem f4n85 {ρ : Env} {s : St} {Q : Xit → Env → St → Prop} : wp (XK k) f4c85 ρ s Q = condP (XK k) (boolOf (evo ρ (.tmp 130))) f4c86 f4c89 ρ s Q := n_cond (by kernel_rfl)
theorem f4n83 {ρ : Env} {s : St} {Q : Xit → Env → St → Prop} : wp (XK k) f4c83 ρ s Q = wp (XK k) f4c84 ρ s (seqP (XK k) f4c85 Q) := n_seq (by kernel_rfl)
theorem f4n53 {ρ : Env} {s : St} {Q : Xit → Env → St → Prop} : wp (XK k) f4c53 ρ s Q = wp (XK k) f4c54 ρ s (seqP (XK k) f4c83 Q) := n_seq (by kernel_rfl)
theorem f4n45 {ρ : Env} {s : St} {Q : Xit → Env → St → Prop} : wp (XK k) f4c45 ρ s Q = wp (XK k) f4c46 ρ s (seqP (XK k) f4c53 Q) := n_seq (by kernel_rfl)
theorem f4n43 {ρ : Env} {s : St} {Q : Xit → Env → St → Prop} : wp (XK k) f4c43 ρ s Q = wp (XK k) f4c44 ρ s (seqP (XK k) f4c45 Q) := n_seq (by kernel_rfl)
theorem f4n42 {ρ : Env} {s : St} {Q : Xit → Env → St → Prop} : wp (XK k) f4c42 ρ s Q = wp (XK k) f4c43 ρ s (blockQ 1 Q) := n_block (by kernel_rfl)
noncomputable def f4c90 : Code := codeAt f4c0 [1, 1, 1, 1, 1, 1, 0, 1, 0, 0, 1, 1]
noncomputable def f4n90 := @n_region (XK k) f4c90 _ _ _ rfl (by kernel_rfl)
theorem f4n41 {ρ : Env} {s : St} {Q : Xit → Env → St → Prop} : wp (XK k) f4c41 ρ s Q = wp (XK k) f4c42 ρ s (seqP (XK k) f4c90 Q) := n_seq (by kernel_rfl)
theorem f4n35 {ρ : Env} {s : St} {Q : Xit → Env → St → Prop} : wp (XK k) f4c35 ρ s Q = wp (XK k) f4c36 ρ s (seqP (XK k) f4c41 Q) := n_seq (by kernel_rfl)
theorem f4n34 {ρ : Env} {s : St} {Q : Xit → Env → St → Prop} : wp (XK k) f4c34 ρ s Q = W (XK k) (.loop f4c35) ρ s Q := n_loop (by kernel_rfl)
theorem f4n33 {ρ : Env} {s : St} {Q : Xit → Env → St → Prop} : wp (XK k) f4c33 ρ s Q = wp (XK k) f4c34 ρ s (blockQ 0 Q) := n_block (by kernel_rfl)
theorem f4n31 {ρ : Env} {s : St} {Q : Xit → Env → St → Prop} : wp (XK k) f4c31 ρ s Q = wp (XK k) f4c32 ρ s (seqP (XK k) f4c33 Q) := n_seq (by kernel_rfl)
noncomputable def f4c91 : Code := codeAt f4c0 [1, 1, 1, 1, 1, 1, 1]
noncomputable def f4c92 : Code := codeAt f4c0 [1, 1, 1, 1, 1, 1, 1, 0]
noncomputable def f4n92 := @n_region (XK k) f4c92 _ _ _ rfl (by kernel_rfl)
noncomputable def f4c93 : Code := codeAt f4c0 [1, 1, 1, 1, 1, 1, 1, 1]
theorem f4n93 {ρ : Env} {s : St} {Q : Xit → Env → St → Prop} : wp (XK k) f4c93 ρ s Q = Q .ret ρ s := n_ret (by kernel_rfl)
theorem f4n91 {ρ : Env} {s : St} {Q : Xit → Env → St → Prop} : wp (XK k) f4c91 ρ s Q = wp (XK k) f4c92 ρ s (seqP (XK k) f4c93 Q) := n_seq (by kernel_rfl)
theorem f4n30 {ρ : Env} {s : St} {Q : Xit → Env → St → Prop} : wp (XK k) f4c30 ρ s Q = wp (XK k) f4c31 ρ s (seqP (XK k) f4c91 Q) := n_seq (by kernel_rfl)
theorem f4n28 {ρ : Env} {s : St} {Q : Xit → Env → St → Prop} : wp (XK k) f4c28 ρ s Q = wp (XK k) f4c29 ρ s (seqP (XK k) f4c30 Q) := n_seq (by kernel_rfl)
theorem f4n20 {ρ : Env} {s : St} {Q : Xit → Env → St → Prop} : wp (XK k) f4c20 ρ s Q = wp (XK k) f4c21 ρ s (seqP (XK k) f4c28 Q) := n_seq (by kernel_rfl)
theorem f4n12 {ρ : Env} {s : St} {Q : Xit → Env → St → Prop} : wp (XK k) f4c12 ρ s Q = wp (XK k) f4c13 ρ s (seqP (XK k) f4c20 Q) := n_seq (by kernel_rfl)
theorem f4n10 {ρ : Env} {s : St} {Q : Xit → Env → St → Prop} : wp (XK k) f4c10 ρ s Q = wp (XK k) f4c11 ρ s (seqP (XK k) f4c12 Q) := n_seq (by kernel_rfl)
theorem f4n2 {ρ : Env} {s : St} {Q : Xit → Env → St → Prop} : wp (XK k) f4c2 ρ s Q = wp (XK k) f4c3 ρ s (seqP (XK k) f4c10 Q) := n_seq (by kernel_rfl)
theorem f4n0 {ρ : Env} {s : St} {Q : Xit → Env → St → Prop} : wp (XK k) f4c0 ρ s Q = wp (XK k) f4c1 ρ s (seqP (XK k) f4c2 Q) := n_seq (by kernel_rfl)
theorem f4_in (hk : Closed k) {x0 : Value} {x1 : Value} {s : St} {Q : Value → St → Prop} (h : wp (XK k) f4c0 (Env.of [x0, x1]) s (rtP (XK k) [.tmp 4] Q)) : WC (XK k) 4 [x0, x1] s Q := WC_in (fn := Try.f4) (c := f4c0) (n := 131) (hk _ _ _) (by kernel_rfl) (by kernel_rfl) (by kernel_rfl) (by kernel_rfl) rfl h
def f4N0 := And.intro (@f4n0 k) (And.intro (@f4n1 k) (And.intro (@f4n2 k) (And.intro (@f4n3 k) (And.intro (@f4n4 k) (And.intro (@f4n5 k) (And.intro (@f4n6 k) (And.intro (@f4n7 k) (And.intro (@f4n8 k) (@f4n9 k)))))))))
def f4N1 := And.intro (@f4n10 k) (And.intro (@f4n11 k) (And.intro (@f4n12 k) (And.intro (@f4n13 k) (And.intro (@f4n14 k) (And.intro (@f4n15 k) (And.intro (@f4n16 k) (And.intro (@f4n17 k) (And.intro (@f4n18 k) (@f4n19 k)))))))))
def f4N2 := And.intro (@f4n20 k) (And.intro (@f4n21 k) (And.intro (@f4n22 k) (And.intro (@f4n23 k) (And.intro (@f4n24 k) (And.intro (@f4n25 k) (And.intro (@f4n26 k) (And.intro (@f4n27 k) (And.intro (@f4n28 k) (@f4n29 k)))))))))
def f4N3 := And.intro (@f4n30 k) (And.intro (@f4n31 k) (And.intro (@f4n32 k) (And.intro (@f4n33 k) (And.intro (@f4n34 k) (And.intro (@f4n35 k) (And.intro (@f4n36 k) (And.intro (@f4n37 k) (And.intro (@f4n38 k) (@f4n39 k)))))))))
def f4N4 := And.intro (@f4n40 k) (And.intro (@f4n41 k) (And.intro (@f4n42 k) (And.intro (@f4n43 k) (And.intro (@f4n44 k) (And.intro (@f4n45 k) (And.intro (@f4n46 k) (And.intro (@f4n47 k) (And.intro (@f4n48 k) (@f4n49 k)))))))))
def f4N5 := And.intro (@f4n50 k) (And.intro (@f4n51 k) (And.intro (@f4n52 k) (And.intro (@f4n53 k) (And.intro (@f4n54 k) (And.intro (@f4n55 k) (And.intro (@f4n56 k) (And.intro (@f4n57 k) (And.intro (@f4n58 k) (@f4n59 k)))))))))
def f4N6 := And.intro (@f4n60 k) (And.intro (@f4n61 k) (And.intro (@f4n62 k) (And.intro (@f4n63 k) (And.intro (@f4n64 k) (And.intro (@f4n65 k) (And.intro (@f4n66 k) (And.intro (@f4n67 k) (And.intro (@f4n68 k) (@f4n69 k)))))))))
def f4N7 := And.intro (@f4n70 k) (And.intro (@f4n71 k) (And.intro (@f4n72 k) (And.intro (@f4n73 k) (And.intro (@f4n74 k) (And.intro (@f4n75 k) (And.intro (@f4n76 k) (And.intro (@f4n77 k) (And.intro (@f4n78 k) (@f4n79 k)))))))))
def f4N8 := And.intro (@f4n80 k) (And.intro (@f4n81 k) (And.intro (@f4n82 k) (And.intro (@f4n83 k) (And.intro (@f4n84 k) (And.intro (@f4n85 k) (And.intro (@f4n86 k) (And.intro (@f4n87 k) (And.intro (@f4n88 k) (@f4n89 k)))))))))
def f4N9 := And.intro (@f4n90 k) (And.intro (@f4n91 k) (And.intro (@f4n92 k) (@f4n93 k)))
noncomputable def f5c0 : Code := bodyOf Try.f5
noncomputable def f5c1 : Code := codeAt f5c0 [0]
noncomputable def f5n1 := @n_region (XK k) f5c1 _ _ _ rfl (by kernel_rfl)
noncomputable def f5c2 : Code := codeAt f5c0 [1]
noncomputable def f5c3 : Code := codeAt f5c0 [1, 0]
noncomputable def f5c4 : Code := codeAt f5c0 [1, 0, 0]
noncomputable def f5n4 := @n_region (XK k) f5c4 _ _ _ rfl (by kernel_rfl)
noncomputable def f5c5 : Code := codeAt f5c0 [1, 0, 1]
noncomputable def f5c6 : Code := codeAt f5c0 [1, 0, 1, 0]
noncomputable def f5c7 : Code := codeAt f5c0 [1, 0, 1, 0, 0]
noncomputable def f5n7 := @n_region (XK k) f5c7 _ _ _ rfl (by kernel_rfl)
noncomputable def f5c8 : Code := codeAt f5c0 [1, 0, 1, 0, 1]
theorem f5n8 {ρ : Env} {s : St} {Q : Xit → Env → St → Prop} : wp (XK k) f5c8 ρ s Q = Q .ret ρ s := n_ret (by kernel_rfl)
theorem f5n6 {ρ : Env} {s : St} {Q : Xit → Env → St → Prop} : wp (XK k) f5c6 ρ s Q = wp (XK k) f5c7 ρ s (seqP (XK k) f5c8 Q) := n_seq (by kernel_rfl)
noncomputable def f5c9 : Code := codeAt f5c0 [1, 0, 1, 1]
theorem f5n9 {ρ : Env} {s : St} {Q : Xit → Env → St → Prop} : wp (XK k) f5c9 ρ s Q = Q .normal ρ s := n_skip (by kernel_rfl)
theorem f5n5 {ρ : Env} {s : St} {Q : Xit → Env → St → Prop} : wp (XK k) f5c5 ρ s Q = condP (XK k) (boolOf (evo ρ (.tmp 22))) f5c6 f5c9 ρ s Q := n_cond (by kernel_rfl)
theorem f5n3 {ρ : Env} {s : St} {Q : Xit → Env → St → Prop} : wp (XK k) f5c3 ρ s Q = wp (XK k) f5c4 ρ s (seqP (XK k) f5c5 Q) := n_seq (by kernel_rfl)
noncomputable def f5c10 : Code := codeAt f5c0 [1, 1]
noncomputable def f5c11 : Code := codeAt f5c0 [1, 1, 0]
noncomputable def f5n11 := @n_region (XK k) f5c11 _ _ _ rfl (by kernel_rfl)
noncomputable def f5c12 : Code := codeAt f5c0 [1, 1, 1]
noncomputable def f5c13 : Code := codeAt f5c0 [1, 1, 1, 0]
noncomputable def f5c14 : Code := codeAt f5c0 [1, 1, 1, 0, 0]
noncomputable def f5n14 := @n_region (XK k) f5c14 _ _ _ rfl (by kernel_rfl)
noncomputable def f5c15 : Code := codeAt f5c0 [1, 1, 1, 0, 1]
noncomputable def f5c16 : Code := codeAt f5c0 [1, 1, 1, 0, 1, 0]
noncomputable def f5c17 : Code := codeAt f5c0 [1, 1, 1, 0, 1, 0, 0]
noncomputable def f5n17 := @n_region (XK k) f5c17 _ _ _ rfl (by kernel_rfl)
noncomputable def f5c18 : Code := codeAt f5c0 [1, 1, 1, 0, 1, 0, 1]
theorem f5n18 {ρ : Env} {s : St} {Q : Xit → Env → St → Prop} : wp (XK k) f5c18 ρ s Q = Q .ret ρ s := n_ret (by kernel_rfl)
theorem f5n16 {ρ : Env} {s : St} {Q : Xit → Env → St → Prop} : wp (XK k) f5c16 ρ s Q = wp (XK k) f5c17 ρ s (seqP (XK k) f5c18 Q) := n_seq (by kernel_rfl)
noncomputable def f5c19 : Code := codeAt f5c0 [1, 1, 1, 0, 1, 1]
theorem f5n19 {ρ : Env} {s : St} {Q : Xit → Env → St → Prop} : wp (XK k) f5c19 ρ s Q = Q .normal ρ s := n_skip (by kernel_rfl)
theorem f5n15 {ρ : Env} {s : St} {Q : Xit → Env → St → Prop} : wp (XK k) f5c15 ρ s Q = condP (XK k) (boolOf (evo ρ (.tmp 37))) f5c16 f5c19 ρ s Q := n_cond (by kernel_rfl)
theorem f5n13 {ρ : Env} {s : St} {Q : Xit → Env → St → Prop} : wp (XK k) f5c13 ρ s Q = wp (XK k) f5c14 ρ s (seqP (XK k) f5c15 Q) := n_seq (by kernel_rfl)
noncomputable def f5c20 : Code := codeAt f5c0 [1, 1, 1, 1]
noncomputable def f5c21 : Code := codeAt f5c0 [1, 1, 1, 1, 0]
noncomputable def f5c22 : Code := codeAt f5c0 [1, 1, 1, 1, 0, 0]
noncomputable def f5n22 := @n_region (XK k) f5c22 _ _ _ rfl (by kernel_rfl)
noncomputable def f5c23 : Code := codeAt f5c0 [1, 1, 1, 1, 0, 1]
noncomputable def f5c24 : Code := codeAt f5c0 [1, 1, 1, 1, 0, 1, 0]
noncomputable def f5c25 : Code := codeAt f5c0 [1, 1, 1, 1, 0, 1, 0, 0]
noncomputable def f5c26 : Code := codeAt f5c0 [1, 1, 1, 1, 0, 1, 0, 0, 0]
noncomputable def f5c27 : Code := codeAt f5c0 [1, 1, 1, 1, 0, 1, 0, 0, 0, 0]
noncomputable def f5n27 := @n_region (XK k) f5c27 _ _ _ rfl (by kernel_rfl)
noncomputable def f5c28 : Code := codeAt f5c0 [1, 1, 1, 1, 0, 1, 0, 0, 0, 1]
noncomputable def f5c29 : Code := codeAt f5c0 [1, 1, 1, 1, 0, 1, 0, 0, 0, 1, 0]
theorem f5n29 {ρ : Env} {s : St} {Q : Xit → Env → St → Prop} : wp (XK k) f5c29 ρ s Q = Q .normal ρ s := n_skip (by kernel_rfl)
noncomputable def f5c30 : Code := codeAt f5c0 [1, 1, 1, 1, 0, 1, 0, 0, 0, 1, 1]
theorem f5n30 {ρ : Env} {s : St} {Q : Xit → Env → St → Prop} : wp (XK k) f5c30 ρ s Q = Q (.exit 0) ρ s := n_exit (by kernel_rfl)
theorem f5n28 {ρ : Env} {s : St} {Q : Xit → Env → St → Prop} : wp (XK k) f5c28 ρ s Q = condP (XK k) (boolOf (evo ρ (.tmp 47))) f5c29 f5c30 ρ s Q := n_cond (by kernel_rfl)
theorem f5n26 {ρ : Env} {s : St} {Q : Xit → Env → St → Prop} : wp (XK k) f5c26 ρ s Q = wp (XK k) f5c27 ρ s (seqP (XK k) f5c28 Q) := n_seq (by kernel_rfl)
noncomputable def f5c31 : Code := codeAt f5c0 [1, 1, 1, 1, 0, 1, 0, 0, 1]
noncomputable def f5c32 : Code := codeAt f5c0 [1, 1, 1, 1, 0, 1, 0, 0, 1, 0]
noncomputable def f5c33 : Code := codeAt f5c0 [1, 1, 1, 1, 0, 1, 0, 0, 1, 0, 0]
noncomputable def f5c34 : Code := codeAt f5c0 [1, 1, 1, 1, 0, 1, 0, 0, 1, 0, 0, 0]
noncomputable def f5c35 : Code := codeAt f5c0 [1, 1, 1, 1, 0, 1, 0, 0, 1, 0, 0, 0, 0]
noncomputable def f5n35 := @n_region (XK k) f5c35 _ _ _ rfl (by kernel_rfl)
noncomputable def f5c36 : Code := codeAt f5c0 [1, 1, 1, 1, 0, 1, 0, 0, 1, 0, 0, 0, 1]
noncomputable def f5c37 : Code := codeAt f5c0 [1, 1, 1, 1, 0, 1, 0, 0, 1, 0, 0, 0, 1, 0]
noncomputable def f5c38 : Code := codeAt f5c0 [1, 1, 1, 1, 0, 1, 0, 0, 1, 0, 0, 0, 1, 0, 0]
noncomputable def f5n38 := @n_region (XK k) f5c38 _ _ _ rfl (by kernel_rfl)
noncomputable def f5c39 : Code := codeAt f5c0 [1, 1, 1, 1, 0, 1, 0, 0, 1, 0, 0, 0, 1, 0, 1]
theorem f5n39 {ρ : Env} {s : St} {Q : Xit → Env → St → Prop} : wp (XK k) f5c39 ρ s Q = Q .ret ρ s := n_ret (by kernel_rfl)
theorem f5n37 {ρ : Env} {s : St} {Q : Xit → Env → St → Prop} : wp (XK k) f5c37 ρ s Q = wp (XK k) f5c38 ρ s (seqP (XK k) f5c39 Q) := n_seq (by kernel_rfl)
noncomputable def f5c40 : Code := codeAt f5c0 [1, 1, 1, 1, 0, 1, 0, 0, 1, 0, 0, 0, 1, 1]
theorem f5n40 {ρ : Env} {s : St} {Q : Xit → Env → St → Prop} : wp (XK k) f5c40 ρ s Q = Q .normal ρ s := n_skip (by kernel_rfl)
theorem f5n36 {ρ : Env} {s : St} {Q : Xit → Env → St → Prop} : wp (XK k) f5c36 ρ s Q = condP (XK k) (boolOf (evo ρ (.tmp 55))) f5c37 f5c40 ρ s Q := n_cond (by kernel_rfl)
theorem f5n34 {ρ : Env} {s : St} {Q : Xit → Env → St → Prop} : wp (XK k) f5c34 ρ s Q = wp (XK k) f5c35 ρ s (seqP (XK k) f5c36 Q) := n_seq (by kernel_rfl)
noncomputable def f5c41 : Code := codeAt f5c0 [1, 1, 1, 1, 0, 1, 0, 0, 1, 0, 0, 1]
noncomputable def f5c42 : Code := codeAt f5c0 [1, 1, 1, 1, 0, 1, 0, 0, 1, 0, 0, 1, 0]
noncomputable def f5n42 := @n_region (XK k) f5c42 _ _ _ rfl (by kernel_rfl)
noncomputable def f5c43 : Code := codeAt f5c0 [1, 1, 1, 1, 0, 1, 0, 0, 1, 0, 0, 1, 1]
noncomputable def f5c44 : Code := codeAt f5c0 [1, 1, 1, 1, 0, 1, 0, 0, 1, 0, 0, 1, 1, 0]
noncomputable def f5n44 := @n_region (XK k) f5c44 _ _ _ rfl (by kernel_rfl)
noncomputable def f5c45 : Code := codeAt f5c0 [1, 1, 1, 1, 0, 1, 0, 0, 1, 0, 0, 1, 1, 1]
noncomputable def f5c46 : Code := codeAt f5c0 [1, 1, 1, 1, 0, 1, 0, 0, 1, 0, 0, 1, 1, 1, 0]
noncomputable def f5c47 : Code := codeAt f5c0 [1, 1, 1, 1, 0, 1, 0, 0, 1, 0, 0, 1, 1, 1, 0, 0]
noncomputable def f5n47 := @n_region (XK k) f5c47 _ _ _ rfl (by kernel_rfl)
noncomputable def f5c48 : Code := codeAt f5c0 [1, 1, 1, 1, 0, 1, 0, 0, 1, 0, 0, 1, 1, 1, 0, 1]
noncomputable def f5c49 : Code := codeAt f5c0 [1, 1, 1, 1, 0, 1, 0, 0, 1, 0, 0, 1, 1, 1, 0, 1, 0]
theorem f5n49 {ρ : Env} {s : St} {Q : Xit → Env → St → Prop} : wp (XK k) f5c49 ρ s Q = Q (.exit 1) ρ s := n_exit (by kernel_rfl)
noncomputable def f5c50 : Code := codeAt f5c0 [1, 1, 1, 1, 0, 1, 0, 0, 1, 0, 0, 1, 1, 1, 0, 1, 1]
theorem f5n50 {ρ : Env} {s : St} {Q : Xit → Env → St → Prop} : wp (XK k) f5c50 ρ s Q = Q .normal ρ s := n_skip (by kernel_rfl)
theorem f5n48 {ρ : Env} {s : St} {Q : Xit → Env → St → Prop} : wp (XK k) f5c48 ρ s Q = condP (XK k) (boolOf (evo ρ (.tmp 78))) f5c49 f5c50 ρ s Q := n_cond (by kernel_rfl)
theorem f5n46 {ρ : Env} {s : St} {Q : Xit → Env → St → Prop} : wp (XK k) f5c46 ρ s Q = wp (XK k) f5c47 ρ s (seqP (XK k) f5c48 Q) := n_seq (by kernel_rfl)
noncomputable def f5c51 : Code := codeAt f5c0 [1, 1, 1, 1, 0, 1, 0, 0, 1, 0, 0, 1, 1, 1, 1]
noncomputable def f5c52 : Code := codeAt f5c0 [1, 1, 1, 1, 0, 1, 0, 0, 1, 0, 0, 1, 1, 1, 1, 0]
noncomputable def f5n52 := @n_region (XK k) f5c52 _ _ _ rfl (by kernel_rfl)
noncomputable def f5c53 : Code := codeAt f5c0 [1, 1, 1, 1, 0, 1, 0, 0, 1, 0, 0, 1, 1, 1, 1, 1]
noncomputable def f5c54 : Code := codeAt f5c0 [1, 1, 1, 1, 0, 1, 0, 0, 1, 0, 0, 1, 1, 1, 1, 1, 0]
noncomputable def f5n54 := @n_region (XK k) f5c54 _ _ _ rfl (by kernel_rfl)
noncomputable def f5c55 : Code := codeAt f5c0 [1, 1, 1, 1, 0, 1, 0, 0, 1, 0, 0, 1, 1, 1, 1, 1, 1]
noncomputable def f5c56 : Code := codeAt f5c0 [1, 1, 1, 1, 0, 1, 0, 0, 1, 0, 0, 1, 1, 1, 1, 1, 1, 0]
noncomputable def f5c57 : Code := codeAt f5c0 [1, 1, 1, 1, 0, 1, 0, 0, 1, 0, 0, 1, 1, 1, 1, 1, 1, 0, 0]
noncomputable def f5n57 := @n_region (XK k) f5c57 _ _ _ rfl (by kernel_rfl)
noncomputable def f5c58 : Code := codeAt f5c0 [1, 1, 1, 1, 0, 1, 0, 0, 1, 0, 0, 1, 1, 1, 1, 1, 1, 0, 1]
noncomputable def f5c59 : Code := codeAt f5c0 [1, 1, 1, 1, 0, 1, 0, 0, 1, 0, 0, 1, 1, 1, 1, 1, 1, 0, 1, 0]
noncomputable def f5n59 := @n_region (XK k) f5c59 _ _ _ rfl (by kernel_rfl)
noncomputable def f5c60 : Code := codeAt f5c0 [1, 1, 1, 1, 0, 1, 0, 0, 1, 0, 0, 1, 1, 1, 1, 1, 1, 0, 1, 1]
theorem f5n60 {ρ : Env} {s : St} {Q : Xit → Env → St → Prop} : wp (XK k) f5c60 ρ s Q = Q .normal ρ s := n_skip (by kernel_rfl)
theorem f5n58 {ρ : Env} {s : St} {Q : Xit → Env → St → Prop} : wp (XK k) f5c58 ρ s Q = condP (XK k) (boolOf (evo ρ (.tmp 82))) f5c59 f5c60 ρ s Q := n_cond (by kernel_rfl)
theorem f5n56 {ρ : Env} {s : St} {Q : Xit → Env → St → Prop} : wp (XK k) f5c56 ρ s Q = wp (XK k) f5c57 ρ s (seqP (XK k) f5c58 Q) := n_seq (by kernel_rfl)
noncomputable def f5c61 : Code := codeAt f5c0 [1, 1, 1, 1, 0, 1, 0, 0, 1, 0, 0, 1, 1, 1, 1, 1, 1, 1]
noncomputable def f5c62 : Code := codeAt f5c0 [1, 1, 1, 1, 0, 1, 0, 0, 1, 0, 0, 1, 1, 1, 1, 1, 1, 1, 0]
noncomputable def f5n62 := @n_region (XK k) f5c62 _ _ _ rfl (by kernel_rfl)
noncomputable def f5c63 : Code := codeAt f5c0 [1, 1, 1, 1, 0, 1, 0, 0, 1, 0, 0, 1, 1, 1, 1, 1, 1, 1, 1]
noncomputable def f5c64 : Code := codeAt f5c0 [1, 1, 1, 1, 0, 1, 0, 0, 1, 0, 0, 1, 1, 1, 1, 1, 1, 1, 1, 0]
noncomputable def f5c65 : Code := codeAt f5c0 [1, 1, 1, 1, 0, 1, 0, 0, 1, 0, 0, 1, 1, 1, 1, 1, 1, 1, 1, 0, 0]
noncomputable def f5n65 := @n_region (XK k) f5c65 _ _ _ rfl (by kernel_rfl)
noncomputable def f5c66 : Code := codeAt f5c0 [1, 1, 1, 1, 0, 1, 0, 0, 1, 0, 0, 1, 1, 1, 1, 1, 1, 1, 1, 0, 1]
theorem f5n66 {ρ : Env} {s : St} {Q : Xit → Env → St → Prop} : wp (XK k) f5c66 ρ s Q = Q .ret ρ s := n_ret (by kernel_rfl)
theorem f5n64 {ρ : Env} {s : St} {Q : Xit → Env → St → Prop} : wp (XK k) f5c64 ρ s Q = wp (XK k) f5c65 ρ s (seqP (XK k) f5c66 Q) := n_seq (by kernel_rfl)
noncomputable def f5c67 : Code := codeAt f5c0 [1, 1, 1, 1, 0, 1, 0, 0, 1, 0, 0, 1, 1, 1, 1, 1, 1, 1, 1, 1]
theorem f5n67 {ρ : Env} {s : St} {Q : Xit → Env → St → Prop} : wp (XK k) f5c67 ρ s Q = Q .normal ρ s := n_skip (by kernel_rfl)
theorem f5n63 {ρ : Env} {s : St} {Q : Xit → Env → St → Prop} : wp (XK k) f5c63 ρ s Q = condP (XK k) (boolOf (evo ρ (.tmp 120))) f5c64 f5c67 ρ s Q := n_cond (by kernel_rfl)
theorem f5n61 {ρ : Env} {s : St} {Q : Xit → Env → St → Prop} : wp (XK k) f5c61 ρ s Q = wp (XK k) f5c62 ρ s (seqP (XK k) f5c63 Q) := n_seq (by kernel_rfl)
theorem f5n55 {ρ : Env} {s : St} {Q : Xit → Env → St → Prop} : wp (XK k) f5c55 ρ s Q = wp (XK k) f5c56 ρ s (seqP (XK k) f5c61 Q) := n_seq (by kernel_rfl)
theorem f5n53 {ρ : Env} {s : St} {Q : Xit → Env → St → Prop} : wp (XK k) f5c53 ρ s Q = wp (XK k) f5c54 ρ s (seqP (XK k) f5c55 Q) := n_seq (by kernel_rfl)
theorem f5n51 {ρ : Env} {s : St} {Q : Xit → Env → St → Prop} : wp (XK k) f5c51 ρ s Q = wp (XK k) f5c52 ρ s (seqP (XK k) f5c53 Q) := n_seq (by kernel_rfl)
theorem f5n45 {ρ : Env} {s : St} {Q : Xit → Env → St → Prop} : wp (XK k) f5c45 ρ s Q = wp (XK k) f5c46 ρ s (seqP (XK k) f5c51 Q) := n_seq (by kernel_rfl)
theorem f5n43 {ρ : Env} {s : St} {Q : Xit → Env → St → Prop} : wp (XK k) f5c43 ρ s Q = wp (XK k) f5c44 ρ s (seqP (XK k) f5c45 Q) := n_seq (by kernel_rfl)
theorem f5n41 {ρ : Env} {s : St} {Q : Xit → Env → St → Prop} : wp (XK k) f5c41 ρ s Q = wp (XK k) f5c42 ρ s (seqP (XK k) f5c43 Q) := n_seq (by kernel_rfl)
theorem f5n33 {ρ : Env} {s : St} {Q : Xit → Env → St → Prop} : wp (XK k) f5c33 ρ s Q = wp (XK k) f5c34 ρ s (seqP (XK k) f5c41 Q) := n_seq (by kernel_rfl)
theorem f5n32 {ρ : Env} {s : St} {Q : Xit → Env → St → Prop} : wp (XK k) f5c32 ρ s Q = wp (XK k) f5c33 ρ s (blockQ 1 Q) := n_block (by kernel_rfl)
noncomputable def f5c68 : Code := codeAt f5c0 [1, 1, 1, 1, 0, 1, 0, 0, 1, 1]
noncomputable def f5n68 := @n_region (XK k) f5c68 _ _ _ rfl (by kernel_rfl)
theorem f5n31 {ρ : Env} {s : St} {Q : Xit → Env → St → Prop} : wp (XK k) f5c31 ρ s Q = wp (XK k) f5c32 ρ s (seqP (XK k) f5c68 Q) := n_seq (by kernel_rfl)
theorem f5n25 {ρ : Env} {s : St} {Q : Xit → Env → St → Prop} : wp (XK k) f5c25 ρ s Q = wp (XK k) f5c26 ρ s (seqP (XK k) f5c31 Q) := n_seq (by kernel_rfl)
theorem f5n24 {ρ : Env} {s : St} {Q : Xit → Env → St → Prop} : wp (XK k) f5c24 ρ s Q = W (XK k) (.loop f5c25) ρ s Q := n_loop (by kernel_rfl)
theorem f5n23 {ρ : Env} {s : St} {Q : Xit → Env → St → Prop} : wp (XK k) f5c23 ρ s Q = wp (XK k) f5c24 ρ s (blockQ 0 Q) := n_block (by kernel_rfl)
theorem f5n21 {ρ : Env} {s : St} {Q : Xit → Env → St → Prop} : wp (XK k) f5c21 ρ s Q = wp (XK k) f5c22 ρ s (seqP (XK k) f5c23 Q) := n_seq (by kernel_rfl)
noncomputable def f5c69 : Code := codeAt f5c0 [1, 1, 1, 1, 1]
noncomputable def f5c70 : Code := codeAt f5c0 [1, 1, 1, 1, 1, 0]
noncomputable def f5n70 := @n_region (XK k) f5c70 _ _ _ rfl (by kernel_rfl)
noncomputable def f5c71 : Code := codeAt f5c0 [1, 1, 1, 1, 1, 1]
noncomputable def f5c72 : Code := codeAt f5c0 [1, 1, 1, 1, 1, 1, 0]
noncomputable def f5c73 : Code := codeAt f5c0 [1, 1, 1, 1, 1, 1, 0, 0]
noncomputable def f5n73 := @n_region (XK k) f5c73 _ _ _ rfl (by kernel_rfl)
noncomputable def f5c74 : Code := codeAt f5c0 [1, 1, 1, 1, 1, 1, 0, 1]
noncomputable def f5c75 : Code := codeAt f5c0 [1, 1, 1, 1, 1, 1, 0, 1, 0]
noncomputable def f5c76 : Code := codeAt f5c0 [1, 1, 1, 1, 1, 1, 0, 1, 0, 0]
noncomputable def f5c77 : Code := codeAt f5c0 [1, 1, 1, 1, 1, 1, 0, 1, 0, 0, 0]
noncomputable def f5c78 : Code := codeAt f5c0 [1, 1, 1, 1, 1, 1, 0, 1, 0, 0, 0, 0]
noncomputable def f5n78 := @n_region (XK k) f5c78 _ _ _ rfl (by kernel_rfl)
noncomputable def f5c79 : Code := codeAt f5c0 [1, 1, 1, 1, 1, 1, 0, 1, 0, 0, 0, 1]
noncomputable def f5c80 : Code := codeAt f5c0 [1, 1, 1, 1, 1, 1, 0, 1, 0, 0, 0, 1, 0]
theorem f5n80 {ρ : Env} {s : St} {Q : Xit → Env → St → Prop} : wp (XK k) f5c80 ρ s Q = Q .normal ρ s := n_skip (by kernel_rfl)
noncomputable def f5c81 : Code := codeAt f5c0 [1, 1, 1, 1, 1, 1, 0, 1, 0, 0, 0, 1, 1]
theorem f5n81 {ρ : Env} {s : St} {Q : Xit → Env → St → Prop} : wp (XK k) f5c81 ρ s Q = Q (.exit 2) ρ s := n_exit (by kernel_rfl)
theorem f5n79 {ρ : Env} {s : St} {Q : Xit → Env → St → Prop} : wp (XK k) f5c79 ρ s Q = condP (XK k) (boolOf (evo ρ (.tmp 126))) f5c80 f5c81 ρ s Q := n_cond (by kernel_rfl)
theorem f5n77 {ρ : Env} {s : St} {Q : Xit → Env → St → Prop} : wp (XK k) f5c77 ρ s Q = wp (XK k) f5c78 ρ s (seqP (XK k) f5c79 Q) := n_seq (by kernel_rfl)
noncomputable def f5c82 : Code := codeAt f5c0 [1, 1, 1, 1, 1, 1, 0, 1, 0, 0, 1]
noncomputable def f5c83 : Code := codeAt f5c0 [1, 1, 1, 1, 1, 1, 0, 1, 0, 0, 1, 0]
noncomputable def f5c84 : Code := codeAt f5c0 [1, 1, 1, 1, 1, 1, 0, 1, 0, 0, 1, 0, 0]
noncomputable def f5c85 : Code := codeAt f5c0 [1, 1, 1, 1, 1, 1, 0, 1, 0, 0, 1, 0, 0, 0]
noncomputable def f5n85 := @n_region (XK k) f5c85 _ _ _ rfl (by kernel_rfl)
noncomputable def f5c86 : Code := codeAt f5c0 [1, 1, 1, 1, 1, 1, 0, 1, 0, 0, 1, 0, 0, 1]
noncomputable def f5c87 : Code := codeAt f5c0 [1, 1, 1, 1, 1, 1, 0, 1, 0, 0, 1, 0, 0, 1, 0]
noncomputable def f5c88 : Code := codeAt f5c0 [1, 1, 1, 1, 1, 1, 0, 1, 0, 0, 1, 0, 0, 1, 0, 0]
noncomputable def f5n88 := @n_region (XK k) f5c88 _ _ _ rfl (by kernel_rfl)
noncomputable def f5c89 : Code := codeAt f5c0 [1, 1, 1, 1, 1, 1, 0, 1, 0, 0, 1, 0, 0, 1, 0, 1]
theorem f5n89 {ρ : Env} {s : St} {Q : Xit → Env → St → Prop} : wp (XK k) f5c89 ρ s Q = Q .ret ρ s := n_ret (by kernel_rfl)
theorem f5n87 {ρ : Env} {s : St} {Q : Xit → Env → St → Prop} : wp (XK k) f5c87 ρ s Q = wp (XK k) f5c88 ρ s (seqP (XK k) f5c89 Q) := n_seq (by kernel_rfl)
noncomputable def f5c90 : Code := codeAt f5c0 [1, 1, 1, 1, 1, 1, 0, 1, 0, 0, 1, 0, 0, 1, 1]
theorem f5n90 {ρ : Env} {s : St} {Q : Xit → Env → St → Prop} : wp (XK k) f5c90 ρ s Q = Q .normal ρ s := n_skip (by kernel_rfl)
theorem f5n86 {ρ : Env} {s : St} {Q : Xit → Env → St → Prop} : wp (XK k) f5c86 ρ s Q = condP (XK k) (boolOf (evo ρ (.tmp 134))) f5c87 f5c90 ρ s Q := n_cond (by kernel_rfl)
theorem f5n84 {ρ : Env} {s : St} {Q : Xit → Env → St → Prop} : wp (XK k) f5c84 ρ s Q = wp (XK k) f5c85 ρ s (seqP (XK k) f5c86 Q) := n_seq (by kernel_rfl)
theorem f5n83 {ρ : Env} {s : St} {Q : Xit → Env → St → Prop} : wp (XK k) f5c83 ρ s Q = wp (XK k) f5c84 ρ s (blockQ 3 Q) := n_block (by kernel_rfl)
noncomputable def f5c91 : Code := codeAt f5c0 [1, 1, 1, 1, 1, 1, 0, 1, 0, 0, 1, 1]
noncomputable def f5n91 := @n_region (XK k) f5c91 _ _ _ rfl (by kernel_rfl)
theorem f5n82 {ρ : Env} {s : St} {Q : Xit → Env → St → Prop} : wp (XK k) f5c82 ρ s Q = wp (XK k) f5c83 ρ s (seqP (XK k) f5c91 Q) := n_seq (by kernel_rfl)
theorem f5n76 {ρ : Env} {s : St} {Q : Xit → Env → St → Prop} : wp (XK k) f5c76 ρ s Q = wp (XK k) f5c77 ρ s (seqP (XK k) f5c82 Q) := n_seq (by kernel_rfl)
theorem f5n75 {ρ : Env} {s : St} {Q : Xit → Env → St → Prop} : wp (XK k) f5c75 ρ s Q = W (XK k) (.loop f5c76) ρ s Q := n_loop (by kernel_rfl)
theorem f5n74 {ρ : Env} {s : St} {Q : Xit → Env → St → Prop} : wp (XK k) f5c74 ρ s Q = wp (XK k) f5c75 ρ s (blockQ 2 Q) := n_block (by kernel_rfl)
theorem f5n72 {ρ : Env} {s : St} {Q : Xit → Env → St → Prop} : wp (XK k) f5c72 ρ s Q = wp (XK k) f5c73 ρ s (seqP (XK k) f5c74 Q) := n_seq (by kernel_rfl)
noncomputable def f5c92 : Code := codeAt f5c0 [1, 1, 1, 1, 1, 1, 1]
noncomputable def f5c93 : Code := codeAt f5c0 [1, 1, 1, 1, 1, 1, 1, 0]
noncomputable def f5n93 := @n_region (XK k) f5c93 _ _ _ rfl (by kernel_rfl)
noncomputable def f5c94 : Code := codeAt f5c0 [1, 1, 1, 1, 1, 1, 1, 1]
theorem f5n94 {ρ : Env} {s : St} {Q : Xit → Env → St → Prop} : wp (XK k) f5c94 ρ s Q = Q .ret ρ s := n_ret (by kernel_rfl)
theorem f5n92 {ρ : Env} {s : St} {Q : Xit → Env → St → Prop} : wp (XK k) f5c92 ρ s Q = wp (XK k) f5c93 ρ s (seqP (XK k) f5c94 Q) := n_seq (by kernel_rfl)
theorem f5n71 {ρ : Env} {s : St} {Q : Xit → Env → St → Prop} : wp (XK k) f5c71 ρ s Q = wp (XK k) f5c72 ρ s (seqP (XK k) f5c92 Q) := n_seq (by kernel_rfl)
theorem f5n69 {ρ : Env} {s : St} {Q : Xit → Env → St → Prop} : wp (XK k) f5c69 ρ s Q = wp (XK k) f5c70 ρ s (seqP (XK k) f5c71 Q) := n_seq (by kernel_rfl)
theorem f5n20 {ρ : Env} {s : St} {Q : Xit → Env → St → Prop} : wp (XK k) f5c20 ρ s Q = wp (XK k) f5c21 ρ s (seqP (XK k) f5c69 Q) := n_seq (by kernel_rfl)
theorem f5n12 {ρ : Env} {s : St} {Q : Xit → Env → St → Prop} : wp (XK k) f5c12 ρ s Q = wp (XK k) f5c13 ρ s (seqP (XK k) f5c20 Q) := n_seq (by kernel_rfl)
theorem f5n10 {ρ : Env} {s : St} {Q : Xit → Env → St → Prop} : wp (XK k) f5c10 ρ s Q = wp (XK k) f5c11 ρ s (seqP (XK k) f5c12 Q) := n_seq (by kernel_rfl)
theorem f5n2 {ρ : Env} {s : St} {Q : Xit → Env → St → Prop} : wp (XK k) f5c2 ρ s Q = wp (XK k) f5c3 ρ s (seqP (XK k) f5c10 Q) := n_seq (by kernel_rfl)
theorem f5n0 {ρ : Env} {s : St} {Q : Xit → Env → St → Prop} : wp (XK k) f5c0 ρ s Q = wp (XK k) f5c1 ρ s (seqP (XK k) f5c2 Q) := n_seq (by kernel_rfl)
theorem f5_in (hk : Closed k) {x0 : Value} {x1 : Value} {x2 : Value} {s : St} {Q : Value → St → Prop} (h : wp (XK k) f5c0 (Env.of [x0, x1, x2]) s (rtP (XK k) [.tmp 6] Q)) : WC (XK k) 5 [x0, x1, x2] s Q := WC_in (fn := Try.f5) (c := f5c0) (n := 142) (hk _ _ _) (by kernel_rfl) (by kernel_rfl) (by kernel_rfl) (by kernel_rfl) rfl h
def f5N0 := And.intro (@f5n0 k) (And.intro (@f5n1 k) (And.intro (@f5n2 k) (And.intro (@f5n3 k) (And.intro (@f5n4 k) (And.intro (@f5n5 k) (And.intro (@f5n6 k) (And.intro (@f5n7 k) (And.intro (@f5n8 k) (@f5n9 k)))))))))
def f5N1 := And.intro (@f5n10 k) (And.intro (@f5n11 k) (And.intro (@f5n12 k) (And.intro (@f5n13 k) (And.intro (@f5n14 k) (And.intro (@f5n15 k) (And.intro (@f5n16 k) (And.intro (@f5n17 k) (And.intro (@f5n18 k) (@f5n19 k)))))))))
def f5N2 := And.intro (@f5n20 k) (And.intro (@f5n21 k) (And.intro (@f5n22 k) (And.intro (@f5n23 k) (And.intro (@f5n24 k) (And.intro (@f5n25 k) (And.intro (@f5n26 k) (And.intro (@f5n27 k) (And.intro (@f5n28 k) (@f5n29 k)))))))))
def f5N3 := And.intro (@f5n30 k) (And.intro (@f5n31 k) (And.intro (@f5n32 k) (And.intro (@f5n33 k) (And.intro (@f5n34 k) (And.intro (@f5n35 k) (And.intro (@f5n36 k) (And.intro (@f5n37 k) (And.intro (@f5n38 k) (@f5n39 k)))))))))
def f5N4 := And.intro (@f5n40 k) (And.intro (@f5n41 k) (And.intro (@f5n42 k) (And.intro (@f5n43 k) (And.intro (@f5n44 k) (And.intro (@f5n45 k) (And.intro (@f5n46 k) (And.intro (@f5n47 k) (And.intro (@f5n48 k) (@f5n49 k)))))))))
def f5N5 := And.intro (@f5n50 k) (And.intro (@f5n51 k) (And.intro (@f5n52 k) (And.intro (@f5n53 k) (And.intro (@f5n54 k) (And.intro (@f5n55 k) (And.intro (@f5n56 k) (And.intro (@f5n57 k) (And.intro (@f5n58 k) (@f5n59 k)))))))))
def f5N6 := And.intro (@f5n60 k) (And.intro (@f5n61 k) (And.intro (@f5n62 k) (And.intro (@f5n63 k) (And.intro (@f5n64 k) (And.intro (@f5n65 k) (And.intro (@f5n66 k) (And.intro (@f5n67 k) (And.intro (@f5n68 k) (@f5n69 k)))))))))
def f5N7 := And.intro (@f5n70 k) (And.intro (@f5n71 k) (And.intro (@f5n72 k) (And.intro (@f5n73 k) (And.intro (@f5n74 k) (And.intro (@f5n75 k) (And.intro (@f5n76 k) (And.intro (@f5n77 k) (And.intro (@f5n78 k) (@f5n79 k)))))))))
def f5N8 := And.intro (@f5n80 k) (And.intro (@f5n81 k) (And.intro (@f5n82 k) (And.intro (@f5n83 k) (And.intro (@f5n84 k) (And.intro (@f5n85 k) (And.intro (@f5n86 k) (And.intro (@f5n87 k) (And.intro (@f5n88 k) (@f5n89 k)))))))))
def f5N9 := And.intro (@f5n90 k) (And.intro (@f5n91 k) (And.intro (@f5n92 k) (And.intro (@f5n93 k) (@f5n94 k))))
noncomputable def f14c0 : Code := bodyOf Try.f14
noncomputable def f14c1 : Code := codeAt f14c0 [0]
noncomputable def f14n1 := @n_region (XK k) f14c1 _ _ _ rfl (by kernel_rfl)
noncomputable def f14c2 : Code := codeAt f14c0 [1]
noncomputable def f14c3 : Code := codeAt f14c0 [1, 0]
noncomputable def f14c4 : Code := codeAt f14c0 [1, 0, 0]
noncomputable def f14n4 := @n_region (XK k) f14c4 _ _ _ rfl (by kernel_rfl)
noncomputable def f14c5 : Code := codeAt f14c0 [1, 0, 1]
noncomputable def f14c6 : Code := codeAt f14c0 [1, 0, 1, 0]
noncomputable def f14c7 : Code := codeAt f14c0 [1, 0, 1, 0, 0]
noncomputable def f14n7 := @n_region (XK k) f14c7 _ _ _ rfl (by kernel_rfl)
noncomputable def f14c8 : Code := codeAt f14c0 [1, 0, 1, 0, 1]
theorem f14n8 {ρ : Env} {s : St} {Q : Xit → Env → St → Prop} : wp (XK k) f14c8 ρ s Q = Q .ret ρ s := n_ret (by kernel_rfl)
theorem f14n6 {ρ : Env} {s : St} {Q : Xit → Env → St → Prop} : wp (XK k) f14c6 ρ s Q = wp (XK k) f14c7 ρ s (seqP (XK k) f14c8 Q) := n_seq (by kernel_rfl)
noncomputable def f14c9 : Code := codeAt f14c0 [1, 0, 1, 1]
theorem f14n9 {ρ : Env} {s : St} {Q : Xit → Env → St → Prop} : wp (XK k) f14c9 ρ s Q = Q .normal ρ s := n_skip (by kernel_rfl)
theorem f14n5 {ρ : Env} {s : St} {Q : Xit → Env → St → Prop} : wp (XK k) f14c5 ρ s Q = condP (XK k) (boolOf (evo ρ (.tmp 9))) f14c6 f14c9 ρ s Q := n_cond (by kernel_rfl)
theorem f14n3 {ρ : Env} {s : St} {Q : Xit → Env → St → Prop} : wp (XK k) f14c3 ρ s Q = wp (XK k) f14c4 ρ s (seqP (XK k) f14c5 Q) := n_seq (by kernel_rfl)
noncomputable def f14c10 : Code := codeAt f14c0 [1, 1]
noncomputable def f14c11 : Code := codeAt f14c0 [1, 1, 0]
noncomputable def f14n11 := @n_region (XK k) f14c11 _ _ _ rfl (by kernel_rfl)
noncomputable def f14c12 : Code := codeAt f14c0 [1, 1, 1]
theorem f14n12 {ρ : Env} {s : St} {Q : Xit → Env → St → Prop} : wp (XK k) f14c12 ρ s Q = Q .ret ρ s := n_ret (by kernel_rfl)
theorem f14n10 {ρ : Env} {s : St} {Q : Xit → Env → St → Prop} : wp (XK k) f14c10 ρ s Q = wp (XK k) f14c11 ρ s (seqP (XK k) f14c12 Q) := n_seq (by kernel_rfl)
theorem f14n2 {ρ : Env} {s : St} {Q : Xit → Env → St → Prop} : wp (XK k) f14c2 ρ s Q = wp (XK k) f14c3 ρ s (seqP (XK k) f14c10 Q) := n_seq (by kernel_rfl)
theorem f14n0 {ρ : Env} {s : St} {Q : Xit → Env → St → Prop} : wp (XK k) f14c0 ρ s Q = wp (XK k) f14c1 ρ s (seqP (XK k) f14c2 Q) := n_seq (by kernel_rfl)
theorem f14_in (hk : Closed k) {x0 : Value} {s : St} {Q : Value → St → Prop} (h : wp (XK k) f14c0 (Env.of [x0]) s (rtP (XK k) [.tmp 2, .tmp 3] Q)) : WC (XK k) 14 [x0] s Q := WC_in (fn := Try.f14) (c := f14c0) (n := 14) (hk _ _ _) (by kernel_rfl) (by kernel_rfl) (by kernel_rfl) (by kernel_rfl) rfl h
def f14N0 := And.intro (@f14n0 k) (And.intro (@f14n1 k) (And.intro (@f14n2 k) (And.intro (@f14n3 k) (And.intro (@f14n4 k) (And.intro (@f14n5 k) (And.intro (@f14n6 k) (And.intro (@f14n7 k) (And.intro (@f14n8 k) (@f14n9 k)))))))))
def f14N1 := And.intro (@f14n10 k) (And.intro (@f14n11 k) (@f14n12 k))
noncomputable def f15c0 : Code := bodyOf Try.f15
noncomputable def f15c1 : Code := codeAt f15c0 [0]
noncomputable def f15n1 := @n_region (XK k) f15c1 _ _ _ rfl (by kernel_rfl)
noncomputable def f15c2 : Code := codeAt f15c0 [1]
noncomputable def f15c3 : Code := codeAt f15c0 [1, 0]
noncomputable def f15c4 : Code := codeAt f15c0 [1, 0, 0]
noncomputable def f15n4 := @n_region (XK k) f15c4 _ _ _ rfl (by kernel_rfl)
noncomputable def f15c5 : Code := codeAt f15c0 [1, 0, 1]
noncomputable def f15c6 : Code := codeAt f15c0 [1, 0, 1, 0]
noncomputable def f15c7 : Code := codeAt f15c0 [1, 0, 1, 0, 0]
noncomputable def f15n7 := @n_region (XK k) f15c7 _ _ _ rfl (by kernel_rfl)
noncomputable def f15c8 : Code := codeAt f15c0 [1, 0, 1, 0, 1]
theorem f15n8 {ρ : Env} {s : St} {Q : Xit → Env → St → Prop} : wp (XK k) f15c8 ρ s Q = Q .ret ρ s := n_ret (by kernel_rfl)
theorem f15n6 {ρ : Env} {s : St} {Q : Xit → Env → St → Prop} : wp (XK k) f15c6 ρ s Q = wp (XK k) f15c7 ρ s (seqP (XK k) f15c8 Q) := n_seq (by kernel_rfl)
noncomputable def f15c9 : Code := codeAt f15c0 [1, 0, 1, 1]
theorem f15n9 {ρ : Env} {s : St} {Q : Xit → Env → St → Prop} : wp (XK k) f15c9 ρ s Q = Q .normal ρ s := n_skip (by kernel_rfl)
theorem f15n5 {ρ : Env} {s : St} {Q : Xit → Env → St → Prop} : wp (XK k) f15c5 ρ s Q = condP (XK k) (boolOf (evo ρ (.tmp 5))) f15c6 f15c9 ρ s Q := n_cond (by kernel_rfl)
theorem f15n3 {ρ : Env} {s : St} {Q : Xit → Env → St → Prop} : wp (XK k) f15c3 ρ s Q = wp (XK k) f15c4 ρ s (seqP (XK k) f15c5 Q) := n_seq (by kernel_rfl)
noncomputable def f15c10 : Code := codeAt f15c0 [1, 1]
noncomputable def f15c11 : Code := codeAt f15c0 [1, 1, 0]
noncomputable def f15n11 := @n_region (XK k) f15c11 _ _ _ rfl (by kernel_rfl)
noncomputable def f15c12 : Code := codeAt f15c0 [1, 1, 1]
noncomputable def f15c13 : Code := codeAt f15c0 [1, 1, 1, 0]
noncomputable def f15c14 : Code := codeAt f15c0 [1, 1, 1, 0, 0]
noncomputable def f15n14 := @n_region (XK k) f15c14 _ _ _ rfl (by kernel_rfl)
noncomputable def f15c15 : Code := codeAt f15c0 [1, 1, 1, 0, 1]
noncomputable def f15c16 : Code := codeAt f15c0 [1, 1, 1, 0, 1, 0]
noncomputable def f15n16 := @n_region (XK k) f15c16 _ _ _ rfl (by kernel_rfl)
noncomputable def f15c17 : Code := codeAt f15c0 [1, 1, 1, 0, 1, 1]
theorem f15n17 {ρ : Env} {s : St} {Q : Xit → Env → St → Prop} : wp (XK k) f15c17 ρ s Q = Q .normal ρ s := n_skip (by kernel_rfl)
theorem f15n15 {ρ : Env} {s : St} {Q : Xit → Env → St → Prop} : wp (XK k) f15c15 ρ s Q = condP (XK k) (boolOf (evo ρ (.tmp 21))) f15c16 f15c17 ρ s Q := n_cond (by kernel_rfl)
theorem f15n13 {ρ : Env} {s : St} {Q : Xit → Env → St → Prop} : wp (XK k) f15c13 ρ s Q = wp (XK k) f15c14 ρ s (seqP (XK k) f15c15 Q) := n_seq (by kernel_rfl)
noncomputable def f15c18 : Code := codeAt f15c0 [1, 1, 1, 1]
noncomputable def f15c19 : Code := codeAt f15c0 [1, 1, 1, 1, 0]
noncomputable def f15n19 := @n_region (XK k) f15c19 _ _ _ rfl (by kernel_rfl)
noncomputable def f15c20 : Code := codeAt f15c0 [1, 1, 1, 1, 1]
theorem f15n20 {ρ : Env} {s : St} {Q : Xit → Env → St → Prop} : wp (XK k) f15c20 ρ s Q = Q .ret ρ s := n_ret (by kernel_rfl)
theorem f15n18 {ρ : Env} {s : St} {Q : Xit → Env → St → Prop} : wp (XK k) f15c18 ρ s Q = wp (XK k) f15c19 ρ s (seqP (XK k) f15c20 Q) := n_seq (by kernel_rfl)
theorem f15n12 {ρ : Env} {s : St} {Q : Xit → Env → St → Prop} : wp (XK k) f15c12 ρ s Q = wp (XK k) f15c13 ρ s (seqP (XK k) f15c18 Q) := n_seq (by kernel_rfl)
theorem f15n10 {ρ : Env} {s : St} {Q : Xit → Env → St → Prop} : wp (XK k) f15c10 ρ s Q = wp (XK k) f15c11 ρ s (seqP (XK k) f15c12 Q) := n_seq (by kernel_rfl)
theorem f15n2 {ρ : Env} {s : St} {Q : Xit → Env → St → Prop} : wp (XK k) f15c2 ρ s Q = wp (XK k) f15c3 ρ s (seqP (XK k) f15c10 Q) := n_seq (by kernel_rfl)
theorem f15n0 {ρ : Env} {s : St} {Q : Xit → Env → St → Prop} : wp (XK k) f15c0 ρ s Q = wp (XK k) f15c1 ρ s (seqP (XK k) f15c2 Q) := n_seq (by kernel_rfl)
theorem f15_in (hk : Closed k) {x0 : Value} {s : St} {Q : Value → St → Prop} (h : wp (XK k) f15c0 (Env.of [x0]) s (rtP (XK k) [.tmp 2] Q)) : WC (XK k) 15 [x0] s Q := WC_in (fn := Try.f15) (c := f15c0) (n := 30) (hk _ _ _) (by kernel_rfl) (by kernel_rfl) (by kernel_rfl) (by kernel_rfl) rfl h
def f15N0 := And.intro (@f15n0 k) (And.intro (@f15n1 k) (And.intro (@f15n2 k) (And.intro (@f15n3 k) (And.intro (@f15n4 k) (And.intro (@f15n5 k) (And.intro (@f15n6 k) (And.intro (@f15n7 k) (And.intro (@f15n8 k) (@f15n9 k)))))))))
def f15N1 := And.intro (@f15n10 k) (And.intro (@f15n11 k) (And.intro (@f15n12 k) (And.intro (@f15n13 k) (And.intro (@f15n14 k) (And.intro (@f15n15 k) (And.intro (@f15n16 k) (And.intro (@f15n17 k) (And.intro (@f15n18 k) (@f15n19 k)))))))))
def f15N2 := @f15n20 k
noncomputable def f16c0 : Code := bodyOf Try.f16
noncomputable def f16c1 : Code := codeAt f16c0 [0]
noncomputable def f16n1 := @n_region (XK k) f16c1 _ _ _ rfl (by kernel_rfl)
noncomputable def f16c2 : Code := codeAt f16c0 [1]
noncomputable def f16c3 : Code := codeAt f16c0 [1, 0]
noncomputable def f16c4 : Code := codeAt f16c0 [1, 0, 0]
noncomputable def f16n4 := @n_region (XK k) f16c4 _ _ _ rfl (by kernel_rfl)
noncomputable def f16c5 : Code := codeAt f16c0 [1, 0, 1]
noncomputable def f16c6 : Code := codeAt f16c0 [1, 0, 1, 0]
noncomputable def f16c7 : Code := codeAt f16c0 [1, 0, 1, 0, 0]
noncomputable def f16n7 := @n_region (XK k) f16c7 _ _ _ rfl (by kernel_rfl)
noncomputable def f16c8 : Code := codeAt f16c0 [1, 0, 1, 0, 1]
theorem f16n8 {ρ : Env} {s : St} {Q : Xit → Env → St → Prop} : wp (XK k) f16c8 ρ s Q = Q .ret ρ s := n_ret (by kernel_rfl)
theorem f16n6 {ρ : Env} {s : St} {Q : Xit → Env → St → Prop} : wp (XK k) f16c6 ρ s Q = wp (XK k) f16c7 ρ s (seqP (XK k) f16c8 Q) := n_seq (by kernel_rfl)
noncomputable def f16c9 : Code := codeAt f16c0 [1, 0, 1, 1]
theorem f16n9 {ρ : Env} {s : St} {Q : Xit → Env → St → Prop} : wp (XK k) f16c9 ρ s Q = Q .normal ρ s := n_skip (by kernel_rfl)
theorem f16n5 {ρ : Env} {s : St} {Q : Xit → Env → St → Prop} : wp (XK k) f16c5 ρ s Q = condP (XK k) (boolOf (evo ρ (.tmp 6))) f16c6 f16c9 ρ s Q := n_cond (by kernel_rfl)
theorem f16n3 {ρ : Env} {s : St} {Q : Xit → Env → St → Prop} : wp (XK k) f16c3 ρ s Q = wp (XK k) f16c4 ρ s (seqP (XK k) f16c5 Q) := n_seq (by kernel_rfl)
noncomputable def f16c10 : Code := codeAt f16c0 [1, 1]
noncomputable def f16c11 : Code := codeAt f16c0 [1, 1, 0]
noncomputable def f16n11 := @n_region (XK k) f16c11 _ _ _ rfl (by kernel_rfl)
noncomputable def f16c12 : Code := codeAt f16c0 [1, 1, 1]
theorem f16n12 {ρ : Env} {s : St} {Q : Xit → Env → St → Prop} : wp (XK k) f16c12 ρ s Q = Q .ret ρ s := n_ret (by kernel_rfl)
theorem f16n10 {ρ : Env} {s : St} {Q : Xit → Env → St → Prop} : wp (XK k) f16c10 ρ s Q = wp (XK k) f16c11 ρ s (seqP (XK k) f16c12 Q) := n_seq (by kernel_rfl)
theorem f16n2 {ρ : Env} {s : St} {Q : Xit → Env → St → Prop} : wp (XK k) f16c2 ρ s Q = wp (XK k) f16c3 ρ s (seqP (XK k) f16c10 Q) := n_seq (by kernel_rfl)
theorem f16n0 {ρ : Env} {s : St} {Q : Xit → Env → St → Prop} : wp (XK k) f16c0 ρ s Q = wp (XK k) f16c1 ρ s (seqP (XK k) f16c2 Q) := n_seq (by kernel_rfl)
theorem f16_in (hk : Closed k) {x0 : Value} {s : St} {Q : Value → St → Prop} (h : wp (XK k) f16c0 (Env.of [x0]) s (rtP (XK k) [.cell 2 38] Q)) : WC (XK k) 16 [x0] s Q := WC_in (fn := Try.f16) (c := f16c0) (n := 22) (hk _ _ _) (by kernel_rfl) (by kernel_rfl) (by kernel_rfl) (by kernel_rfl) rfl h
def f16N0 := And.intro (@f16n0 k) (And.intro (@f16n1 k) (And.intro (@f16n2 k) (And.intro (@f16n3 k) (And.intro (@f16n4 k) (And.intro (@f16n5 k) (And.intro (@f16n6 k) (And.intro (@f16n7 k) (And.intro (@f16n8 k) (@f16n9 k)))))))))
def f16N1 := And.intro (@f16n10 k) (And.intro (@f16n11 k) (@f16n12 k))
noncomputable def f17c0 : Code := bodyOf Try.f17
noncomputable def f17c1 : Code := codeAt f17c0 [0]
noncomputable def f17n1 := @n_region (XK k) f17c1 _ _ _ rfl (by kernel_rfl)
noncomputable def f17c2 : Code := codeAt f17c0 [1]
noncomputable def f17c3 : Code := codeAt f17c0 [1, 0]
noncomputable def f17c4 : Code := codeAt f17c0 [1, 0, 0]
noncomputable def f17n4 := @n_region (XK k) f17c4 _ _ _ rfl (by kernel_rfl)
noncomputable def f17c5 : Code := codeAt f17c0 [1, 0, 1]
noncomputable def f17c6 : Code := codeAt f17c0 [1, 0, 1, 0]
noncomputable def f17c7 : Code := codeAt f17c0 [1, 0, 1, 0, 0]
noncomputable def f17n7 := @n_region (XK k) f17c7 _ _ _ rfl (by kernel_rfl)
noncomputable def f17c8 : Code := codeAt f17c0 [1, 0, 1, 0, 1]
theorem f17n8 {ρ : Env} {s : St} {Q : Xit → Env → St → Prop} : wp (XK k) f17c8 ρ s Q = Q .ret ρ s := n_ret (by kernel_rfl)
theorem f17n6 {ρ : Env} {s : St} {Q : Xit → Env → St → Prop} : wp (XK k) f17c6 ρ s Q = wp (XK k) f17c7 ρ s (seqP (XK k) f17c8 Q) := n_seq (by kernel_rfl)
noncomputable def f17c9 : Code := codeAt f17c0 [1, 0, 1, 1]
theorem f17n9 {ρ : Env} {s : St} {Q : Xit → Env → St → Prop} : wp (XK k) f17c9 ρ s Q = Q .normal ρ s := n_skip (by kernel_rfl)
theorem f17n5 {ρ : Env} {s : St} {Q : Xit → Env → St → Prop} : wp (XK k) f17c5 ρ s Q = condP (XK k) (boolOf (evo ρ (.tmp 9))) f17c6 f17c9 ρ s Q := n_cond (by kernel_rfl)
theorem f17n3 {ρ : Env} {s : St} {Q : Xit → Env → St → Prop} : wp (XK k) f17c3 ρ s Q = wp (XK k) f17c4 ρ s (seqP (XK k) f17c5 Q) := n_seq (by kernel_rfl)
noncomputable def f17c10 : Code := codeAt f17c0 [1, 1]
noncomputable def f17c11 : Code := codeAt f17c0 [1, 1, 0]
noncomputable def f17c12 : Code := codeAt f17c0 [1, 1, 0, 0]
noncomputable def f17n12 := @n_region (XK k) f17c12 _ _ _ rfl (by kernel_rfl)
noncomputable def f17c13 : Code := codeAt f17c0 [1, 1, 0, 1]
noncomputable def f17c14 : Code := codeAt f17c0 [1, 1, 0, 1, 0]
noncomputable def f17c15 : Code := codeAt f17c0 [1, 1, 0, 1, 0, 0]
noncomputable def f17n15 := @n_region (XK k) f17c15 _ _ _ rfl (by kernel_rfl)
noncomputable def f17c16 : Code := codeAt f17c0 [1, 1, 0, 1, 0, 1]
theorem f17n16 {ρ : Env} {s : St} {Q : Xit → Env → St → Prop} : wp (XK k) f17c16 ρ s Q = Q .ret ρ s := n_ret (by kernel_rfl)
theorem f17n14 {ρ : Env} {s : St} {Q : Xit → Env → St → Prop} : wp (XK k) f17c14 ρ s Q = wp (XK k) f17c15 ρ s (seqP (XK k) f17c16 Q) := n_seq (by kernel_rfl)
noncomputable def f17c17 : Code := codeAt f17c0 [1, 1, 0, 1, 1]
theorem f17n17 {ρ : Env} {s : St} {Q : Xit → Env → St → Prop} : wp (XK k) f17c17 ρ s Q = Q .normal ρ s := n_skip (by kernel_rfl)
theorem f17n13 {ρ : Env} {s : St} {Q : Xit → Env → St → Prop} : wp (XK k) f17c13 ρ s Q = condP (XK k) (boolOf (evo ρ (.tmp 20))) f17c14 f17c17 ρ s Q := n_cond (by kernel_rfl)
theorem f17n11 {ρ : Env} {s : St} {Q : Xit → Env → St → Prop} : wp (XK k) f17c11 ρ s Q = wp (XK k) f17c12 ρ s (seqP (XK k) f17c13 Q) := n_seq (by kernel_rfl)
noncomputable def f17c18 : Code := codeAt f17c0 [1, 1, 1]
noncomputable def f17c19 : Code := codeAt f17c0 [1, 1, 1, 0]
noncomputable def f17n19 := @n_region (XK k) f17c19 _ _ _ rfl (by kernel_rfl)
noncomputable def f17c20 : Code := codeAt f17c0 [1, 1, 1, 1]
noncomputable def f17c21 : Code := codeAt f17c0 [1, 1, 1, 1, 0]
noncomputable def f17c22 : Code := codeAt f17c0 [1, 1, 1, 1, 0, 0]
noncomputable def f17n22 := @n_region (XK k) f17c22 _ _ _ rfl (by kernel_rfl)
noncomputable def f17c23 : Code := codeAt f17c0 [1, 1, 1, 1, 0, 1]
noncomputable def f17c24 : Code := codeAt f17c0 [1, 1, 1, 1, 0, 1, 0]
noncomputable def f17n24 := @n_region (XK k) f17c24 _ _ _ rfl (by kernel_rfl)
noncomputable def f17c25 : Code := codeAt f17c0 [1, 1, 1, 1, 0, 1, 1]
theorem f17n25 {ρ : Env} {s : St} {Q : Xit → Env → St → Prop} : wp (XK k) f17c25 ρ s Q = Q .normal ρ s := n_skip (by kernel_rfl)
theorem f17n23 {ρ : Env} {s : St} {Q : Xit → Env → St → Prop} : wp (XK k) f17c23 ρ s Q = condP (XK k) (boolOf (evo ρ (.tmp 27))) f17c24 f17c25 ρ s Q := n_cond (by kernel_rfl)
theorem f17n21 {ρ : Env} {s : St} {Q : Xit → Env → St → Prop} : wp (XK k) f17c21 ρ s Q = wp (XK k) f17c22 ρ s (seqP (XK k) f17c23 Q) := n_seq (by kernel_rfl)
noncomputable def f17c26 : Code := codeAt f17c0 [1, 1, 1, 1, 1]
noncomputable def f17c27 : Code := codeAt f17c0 [1, 1, 1, 1, 1, 0]
noncomputable def f17c28 : Code := codeAt f17c0 [1, 1, 1, 1, 1, 0, 0]
noncomputable def f17n28 := @n_region (XK k) f17c28 _ _ _ rfl (by kernel_rfl)
noncomputable def f17c29 : Code := codeAt f17c0 [1, 1, 1, 1, 1, 0, 1]
noncomputable def f17c30 : Code := codeAt f17c0 [1, 1, 1, 1, 1, 0, 1, 0]
noncomputable def f17c31 : Code := codeAt f17c0 [1, 1, 1, 1, 1, 0, 1, 0, 0]
noncomputable def f17n31 := @n_region (XK k) f17c31 _ _ _ rfl (by kernel_rfl)
noncomputable def f17c32 : Code := codeAt f17c0 [1, 1, 1, 1, 1, 0, 1, 0, 1]
theorem f17n32 {ρ : Env} {s : St} {Q : Xit → Env → St → Prop} : wp (XK k) f17c32 ρ s Q = Q .ret ρ s := n_ret (by kernel_rfl)
theorem f17n30 {ρ : Env} {s : St} {Q : Xit → Env → St → Prop} : wp (XK k) f17c30 ρ s Q = wp (XK k) f17c31 ρ s (seqP (XK k) f17c32 Q) := n_seq (by kernel_rfl)
noncomputable def f17c33 : Code := codeAt f17c0 [1, 1, 1, 1, 1, 0, 1, 1]
theorem f17n33 {ρ : Env} {s : St} {Q : Xit → Env → St → Prop} : wp (XK k) f17c33 ρ s Q = Q .normal ρ s := n_skip (by kernel_rfl)
theorem f17n29 {ρ : Env} {s : St} {Q : Xit → Env → St → Prop} : wp (XK k) f17c29 ρ s Q = condP (XK k) (boolOf (evo ρ (.tmp 43))) f17c30 f17c33 ρ s Q := n_cond (by kernel_rfl)
theorem f17n27 {ρ : Env} {s : St} {Q : Xit → Env → St → Prop} : wp (XK k) f17c27 ρ s Q = wp (XK k) f17c28 ρ s (seqP (XK k) f17c29 Q) := n_seq (by kernel_rfl)
noncomputable def f17c34 : Code := codeAt f17c0 [1, 1, 1, 1, 1, 1]
noncomputable def f17c35 : Code := codeAt f17c0 [1, 1, 1, 1, 1, 1, 0]
noncomputable def f17c36 : Code := codeAt f17c0 [1, 1, 1, 1, 1, 1, 0, 0]
noncomputable def f17n36 := @n_region (XK k) f17c36 _ _ _ rfl (by kernel_rfl)
noncomputable def f17c37 : Code := codeAt f17c0 [1, 1, 1, 1, 1, 1, 0, 1]
noncomputable def f17c38 : Code := codeAt f17c0 [1, 1, 1, 1, 1, 1, 0, 1, 0]
noncomputable def f17c39 : Code := codeAt f17c0 [1, 1, 1, 1, 1, 1, 0, 1, 0, 0]
noncomputable def f17n39 := @n_region (XK k) f17c39 _ _ _ rfl (by kernel_rfl)
noncomputable def f17c40 : Code := codeAt f17c0 [1, 1, 1, 1, 1, 1, 0, 1, 0, 1]
theorem f17n40 {ρ : Env} {s : St} {Q : Xit → Env → St → Prop} : wp (XK k) f17c40 ρ s Q = Q .ret ρ s := n_ret (by kernel_rfl)
theorem f17n38 {ρ : Env} {s : St} {Q : Xit → Env → St → Prop} : wp (XK k) f17c38 ρ s Q = wp (XK k) f17c39 ρ s (seqP (XK k) f17c40 Q) := n_seq (by kernel_rfl)
noncomputable def f17c41 : Code := codeAt f17c0 [1, 1, 1, 1, 1, 1, 0, 1, 1]
theorem f17n41 {ρ : Env} {s : St} {Q : Xit → Env → St → Prop} : wp (XK k) f17c41 ρ s Q = Q .normal ρ s := n_skip (by kernel_rfl)
theorem f17n37 {ρ : Env} {s : St} {Q : Xit → Env → St → Prop} : wp (XK k) f17c37 ρ s Q = condP (XK k) (boolOf (evo ρ (.tmp 46))) f17c38 f17c41 ρ s Q := n_cond (by kernel_rfl)
theorem f17n35 {ρ : Env} {s : St} {Q : Xit → Env → St → Prop} : wp (XK k) f17c35 ρ s Q = wp (XK k) f17c36 ρ s (seqP (XK k) f17c37 Q) := n_seq (by kernel_rfl)
noncomputable def f17c42 : Code := codeAt f17c0 [1, 1, 1, 1, 1, 1, 1]
noncomputable def f17c43 : Code := codeAt f17c0 [1, 1, 1, 1, 1, 1, 1, 0]
noncomputable def f17c44 : Code := codeAt f17c0 [1, 1, 1, 1, 1, 1, 1, 0, 0]
noncomputable def f17n44 := @n_region (XK k) f17c44 _ _ _ rfl (by kernel_rfl)
noncomputable def f17c45 : Code := codeAt f17c0 [1, 1, 1, 1, 1, 1, 1, 0, 1]
noncomputable def f17c46 : Code := codeAt f17c0 [1, 1, 1, 1, 1, 1, 1, 0, 1, 0]
noncomputable def f17n46 := @n_region (XK k) f17c46 _ _ _ rfl (by kernel_rfl)
noncomputable def f17c47 : Code := codeAt f17c0 [1, 1, 1, 1, 1, 1, 1, 0, 1, 1]
theorem f17n47 {ρ : Env} {s : St} {Q : Xit → Env → St → Prop} : wp (XK k) f17c47 ρ s Q = Q .normal ρ s := n_skip (by kernel_rfl)
theorem f17n45 {ρ : Env} {s : St} {Q : Xit → Env → St → Prop} : wp (XK k) f17c45 ρ s Q = condP (XK k) (boolOf (evo ρ (.tmp 48))) f17c46 f17c47 ρ s Q := n_cond (by kernel_rfl)
theorem f17n43 {ρ : Env} {s : St} {Q : Xit → Env → St → Prop} : wp (XK k) f17c43 ρ s Q = wp (XK k) f17c44 ρ s (seqP (XK k) f17c45 Q) := n_seq (by kernel_rfl)
noncomputable def f17c48 : Code := codeAt f17c0 [1, 1, 1, 1, 1, 1, 1, 1]
noncomputable def f17c49 : Code := codeAt f17c0 [1, 1, 1, 1, 1, 1, 1, 1, 0]
noncomputable def f17c50 : Code := codeAt f17c0 [1, 1, 1, 1, 1, 1, 1, 1, 0, 0]
noncomputable def f17n50 := @n_region (XK k) f17c50 _ _ _ rfl (by kernel_rfl)
noncomputable def f17c51 : Code := codeAt f17c0 [1, 1, 1, 1, 1, 1, 1, 1, 0, 1]
noncomputable def f17c52 : Code := codeAt f17c0 [1, 1, 1, 1, 1, 1, 1, 1, 0, 1, 0]
noncomputable def f17n52 := @n_regionD (XK k) f17c52 _ _ _ [(2, []), (2, []), (2, []), (2, []), (2, []), (2, []), (2, []), (2, []), (2, []), (2, []), (2, []), (0, []), (1, [0, 1, 2, 3, 4, 5, 6, 7, 8]), (1, [])] rfl (by kernel_rfl) (by kernel_rfl) (by kernel_rfl)
noncomputable def f17c53 : Code := codeAt f17c0 [1, 1, 1, 1, 1, 1, 1, 1, 0, 1, 1]
noncomputable def f17n53 := @n_regionD (XK k) f17c53 _ _ _ [(2, []), (2, []), (2, []), (2, []), (2, []), (2, []), (2, []), (2, []), (2, []), (2, []), (2, []), (0, []), (1, [0, 1, 2, 3, 4, 5, 6, 7, 8]), (1, [])] rfl (by kernel_rfl) (by kernel_rfl) (by kernel_rfl)
theorem f17n51 {ρ : Env} {s : St} {Q : Xit → Env → St → Prop} : wp (XK k) f17c51 ρ s Q = condP (XK k) (boolOf (evo ρ (.tmp 57))) f17c52 f17c53 ρ s Q := n_cond (by kernel_rfl)
theorem f17n49 {ρ : Env} {s : St} {Q : Xit → Env → St → Prop} : wp (XK k) f17c49 ρ s Q = wp (XK k) f17c50 ρ s (seqP (XK k) f17c51 Q) := n_seq (by kernel_rfl)
noncomputable def f17c54 : Code := codeAt f17c0 [1, 1, 1, 1, 1, 1, 1, 1, 1]
noncomputable def f17c55 : Code := codeAt f17c0 [1, 1, 1, 1, 1, 1, 1, 1, 1, 0]
noncomputable def f17c56 : Code := codeAt f17c0 [1, 1, 1, 1, 1, 1, 1, 1, 1, 0, 0]
noncomputable def f17n56 := @n_regionD (XK k) f17c56 _ _ _ [(2, []), (1, []), (2, [1]), (2, [1]), (2, [1]), (2, [1]), (2, [])] rfl (by kernel_rfl) (by kernel_rfl) (by kernel_rfl)
noncomputable def f17c57 : Code := codeAt f17c0 [1, 1, 1, 1, 1, 1, 1, 1, 1, 0, 1]
noncomputable def f17c58 : Code := codeAt f17c0 [1, 1, 1, 1, 1, 1, 1, 1, 1, 0, 1, 0]
noncomputable def f17c59 : Code := codeAt f17c0 [1, 1, 1, 1, 1, 1, 1, 1, 1, 0, 1, 0, 0]
noncomputable def f17n59 := @n_region (XK k) f17c59 _ _ _ rfl (by kernel_rfl)
noncomputable def f17c60 : Code := codeAt f17c0 [1, 1, 1, 1, 1, 1, 1, 1, 1, 0, 1, 0, 1]
noncomputable def f17n60 := @n_region (XK k) f17c60 _ _ _ rfl (by kernel_rfl)
theorem f17n58 {ρ : Env} {s : St} {Q : Xit → Env → St → Prop} : wp (XK k) f17c58 ρ s Q = wp (XK k) f17c59 ρ s (seqP (XK k) f17c60 Q) := n_seq (by kernel_rfl)
noncomputable def f17c61 : Code := codeAt f17c0 [1, 1, 1, 1, 1, 1, 1, 1, 1, 0, 1, 1]
theorem f17n61 {ρ : Env} {s : St} {Q : Xit → Env → St → Prop} : wp (XK k) f17c61 ρ s Q = Q .normal ρ s := n_skip (by kernel_rfl)
theorem f17n57 {ρ : Env} {s : St} {Q : Xit → Env → St → Prop} : wp (XK k) f17c57 ρ s Q = condP (XK k) (boolOf (evo ρ (.tmp 90))) f17c58 f17c61 ρ s Q := n_cond (by kernel_rfl)
theorem f17n55 {ρ : Env} {s : St} {Q : Xit → Env → St → Prop} : wp (XK k) f17c55 ρ s Q = wp (XK k) f17c56 ρ s (seqP (XK k) f17c57 Q) := n_seq (by kernel_rfl)
noncomputable def f17c62 : Code := codeAt f17c0 [1, 1, 1, 1, 1, 1, 1, 1, 1, 1]
noncomputable def f17c63 : Code := codeAt f17c0 [1, 1, 1, 1, 1, 1, 1, 1, 1, 1, 0]
noncomputable def f17n63 := @n_region (XK k) f17c63 _ _ _ rfl (by kernel_rfl)
noncomputable def f17c64 : Code := codeAt f17c0 [1, 1, 1, 1, 1, 1, 1, 1, 1, 1, 1]
noncomputable def f17c65 : Code := codeAt f17c0 [1, 1, 1, 1, 1, 1, 1, 1, 1, 1, 1, 0]
noncomputable def f17n65 := @n_region (XK k) f17c65 _ _ _ rfl (by kernel_rfl)
noncomputable def f17c66 : Code := codeAt f17c0 [1, 1, 1, 1, 1, 1, 1, 1, 1, 1, 1, 1]
theorem f17n66 {ρ : Env} {s : St} {Q : Xit → Env → St → Prop} : wp (XK k) f17c66 ρ s Q = Q .ret ρ s := n_ret (by kernel_rfl)
theorem f17n64 {ρ : Env} {s : St} {Q : Xit → Env → St → Prop} : wp (XK k) f17c64 ρ s Q = wp (XK k) f17c65 ρ s (seqP (XK k) f17c66 Q) := n_seq (by kernel_rfl)
theorem f17n62 {ρ : Env} {s : St} {Q : Xit → Env → St → Prop} : wp (XK k) f17c62 ρ s Q = wp (XK k) f17c63 ρ s (seqP (XK k) f17c64 Q) := n_seq (by kernel_rfl)
theorem f17n54 {ρ : Env} {s : St} {Q : Xit → Env → St → Prop} : wp (XK k) f17c54 ρ s Q = wp (XK k) f17c55 ρ s (seqP (XK k) f17c62 Q) := n_seq (by kernel_rfl)
theorem f17n48 {ρ : Env} {s : St} {Q : Xit → Env → St → Prop} : wp (XK k) f17c48 ρ s Q = wp (XK k) f17c49 ρ s (seqP (XK k) f17c54 Q) := n_seq (by kernel_rfl)
theorem f17n42 {ρ : Env} {s : St} {Q : Xit → Env → St → Prop} : wp (XK k) f17c42 ρ s Q = wp (XK k) f17c43 ρ s (seqP (XK k) f17c48 Q) := n_seq (by kernel_rfl)
theorem f17n34 {ρ : Env} {s : St} {Q : Xit → Env → St → Prop} : wp (XK k) f17c34 ρ s Q = wp (XK k) f17c35 ρ s (seqP (XK k) f17c42 Q) := n_seq (by kernel_rfl)
theorem f17n26 {ρ : Env} {s : St} {Q : Xit → Env → St → Prop} : wp (XK k) f17c26 ρ s Q = wp (XK k) f17c27 ρ s (seqP (XK k) f17c34 Q) := n_seq (by kernel_rfl)
theorem f17n20 {ρ : Env} {s : St} {Q : Xit → Env → St → Prop} : wp (XK k) f17c20 ρ s Q = wp (XK k) f17c21 ρ s (seqP (XK k) f17c26 Q) := n_seq (by kernel_rfl)
theorem f17n18 {ρ : Env} {s : St} {Q : Xit → Env → St → Prop} : wp (XK k) f17c18 ρ s Q = wp (XK k) f17c19 ρ s (seqP (XK k) f17c20 Q) := n_seq (by kernel_rfl)
theorem f17n10 {ρ : Env} {s : St} {Q : Xit → Env → St → Prop} : wp (XK k) f17c10 ρ s Q = wp (XK k) f17c11 ρ s (seqP (XK k) f17c18 Q) := n_seq (by kernel_rfl)
theorem f17n2 {ρ : Env} {s : St} {Q : Xit → Env → St → Prop} : wp (XK k) f17c2 ρ s Q = wp (XK k) f17c3 ρ s (seqP (XK k) f17c10 Q) := n_seq (by kernel_rfl)
theorem f17n0 {ρ : Env} {s : St} {Q : Xit → Env → St → Prop} : wp (XK k) f17c0 ρ s Q = wp (XK k) f17c1 ρ s (seqP (XK k) f17c2 Q) := n_seq (by kernel_rfl)
theorem f17_in (hk : Closed k) {x0 : Value} {x1 : Value} {x2 : Value} {s : St} {Q : Value → St → Prop} (h : wp (XK k) f17c0 (Env.of [x0, x1, x2]) s (rtP (XK k) [.tmp 6] Q)) : WC (XK k) 17 [x0, x1, x2] s Q := WC_in (fn := Try.f17) (c := f17c0) (n := 114) (hk _ _ _) (by kernel_rfl) (by kernel_rfl) (by kernel_rfl) (by kernel_rfl) rfl h
def f17N0 := And.intro (@f17n0 k) (And.intro (@f17n1 k) (And.intro (@f17n2 k) (And.intro (@f17n3 k) (And.intro (@f17n4 k) (And.intro (@f17n5 k) (And.intro (@f17n6 k) (And.intro (@f17n7 k) (And.intro (@f17n8 k) (@f17n9 k)))))))))
def f17N1 := And.intro (@f17n10 k) (And.intro (@f17n11 k) (And.intro (@f17n12 k) (And.intro (@f17n13 k) (And.intro (@f17n14 k) (And.intro (@f17n15 k) (And.intro (@f17n16 k) (And.intro (@f17n17 k) (And.intro (@f17n18 k) (@f17n19 k)))))))))
def f17N2 := And.intro (@f17n20 k) (And.intro (@f17n21 k) (And.intro (@f17n22 k) (And.intro (@f17n23 k) (And.intro (@f17n24 k) (And.intro (@f17n25 k) (And.intro (@f17n26 k) (And.intro (@f17n27 k) (And.intro (@f17n28 k) (@f17n29 k)))))))))
def f17N3 := And.intro (@f17n30 k) (And.intro (@f17n31 k) (And.intro (@f17n32 k) (And.intro (@f17n33 k) (And.intro (@f17n34 k) (And.intro (@f17n35 k) (And.intro (@f17n36 k) (And.intro (@f17n37 k) (And.intro (@f17n38 k) (@f17n39 k)))))))))
def f17N4 := And.intro (@f17n40 k) (And.intro (@f17n41 k) (And.intro (@f17n42 k) (And.intro (@f17n43 k) (And.intro (@f17n44 k) (And.intro (@f17n45 k) (And.intro (@f17n46 k) (And.intro (@f17n47 k) (And.intro (@f17n48 k) (@f17n49 k)))))))))
def f17N5 := And.intro (@f17n50 k) (And.intro (@f17n51 k) (And.intro (@f17n52 k) (And.intro (@f17n53 k) (And.intro (@f17n54 k) (And.intro (@f17n55 k) (And.intro (@f17n56 k) (And.intro (@f17n57 k) (And.intro (@f17n58 k) (@f17n59 k)))))))))
def f17N6 := And.intro (@f17n60 k) (And.intro (@f17n61 k) (And.intro (@f17n62 k) (And.intro (@f17n63 k) (And.intro (@f17n64 k) (And.intro (@f17n65 k) (@f17n66 k))))))
noncomputable def f18c0 : Code := bodyOf Try.f18
noncomputable def f18c1 : Code := codeAt f18c0 [0]
noncomputable def f18n1 := @n_region (XK k) f18c1 _ _ _ rfl (by kernel_rfl)
noncomputable def f18c2 : Code := codeAt f18c0 [1]
noncomputable def f18c3 : Code := codeAt f18c0 [1, 0]
noncomputable def f18c4 : Code := codeAt f18c0 [1, 0, 0]
noncomputable def f18n4 := @n_region (XK k) f18c4 _ _ _ rfl (by kernel_rfl)
noncomputable def f18c5 : Code := codeAt f18c0 [1, 0, 1]
noncomputable def f18c6 : Code := codeAt f18c0 [1, 0, 1, 0]
noncomputable def f18c7 : Code := codeAt f18c0 [1, 0, 1, 0, 0]
noncomputable def f18c8 : Code := codeAt f18c0 [1, 0, 1, 0, 0, 0]
noncomputable def f18c9 : Code := codeAt f18c0 [1, 0, 1, 0, 0, 0, 0]
noncomputable def f18n9 := @n_region (XK k) f18c9 _ _ _ rfl (by kernel_rfl)
noncomputable def f18c10 : Code := codeAt f18c0 [1, 0, 1, 0, 0, 0, 1]
noncomputable def f18c11 : Code := codeAt f18c0 [1, 0, 1, 0, 0, 0, 1, 0]
theorem f18n11 {ρ : Env} {s : St} {Q : Xit → Env → St → Prop} : wp (XK k) f18c11 ρ s Q = Q .normal ρ s := n_skip (by kernel_rfl)
noncomputable def f18c12 : Code := codeAt f18c0 [1, 0, 1, 0, 0, 0, 1, 1]
theorem f18n12 {ρ : Env} {s : St} {Q : Xit → Env → St → Prop} : wp (XK k) f18c12 ρ s Q = Q (.exit 0) ρ s := n_exit (by kernel_rfl)
theorem f18n10 {ρ : Env} {s : St} {Q : Xit → Env → St → Prop} : wp (XK k) f18c10 ρ s Q = condP (XK k) (boolOf (evo ρ (.tmp 7))) f18c11 f18c12 ρ s Q := n_cond (by kernel_rfl)
theorem f18n8 {ρ : Env} {s : St} {Q : Xit → Env → St → Prop} : wp (XK k) f18c8 ρ s Q = wp (XK k) f18c9 ρ s (seqP (XK k) f18c10 Q) := n_seq (by kernel_rfl)
noncomputable def f18c13 : Code := codeAt f18c0 [1, 0, 1, 0, 0, 1]
noncomputable def f18c14 : Code := codeAt f18c0 [1, 0, 1, 0, 0, 1, 0]
noncomputable def f18c15 : Code := codeAt f18c0 [1, 0, 1, 0, 0, 1, 0, 0]
noncomputable def f18c16 : Code := codeAt f18c0 [1, 0, 1, 0, 0, 1, 0, 0, 0]
noncomputable def f18n16 := @n_region (XK k) f18c16 _ _ _ rfl (by kernel_rfl)
noncomputable def f18c17 : Code := codeAt f18c0 [1, 0, 1, 0, 0, 1, 0, 0, 1]
noncomputable def f18c18 : Code := codeAt f18c0 [1, 0, 1, 0, 0, 1, 0, 0, 1, 0]
noncomputable def f18c19 : Code := codeAt f18c0 [1, 0, 1, 0, 0, 1, 0, 0, 1, 0, 0]
noncomputable def f18n19 := @n_region (XK k) f18c19 _ _ _ rfl (by kernel_rfl)
noncomputable def f18c20 : Code := codeAt f18c0 [1, 0, 1, 0, 0, 1, 0, 0, 1, 0, 1]
theorem f18n20 {ρ : Env} {s : St} {Q : Xit → Env → St → Prop} : wp (XK k) f18c20 ρ s Q = Q .ret ρ s := n_ret (by kernel_rfl)
theorem f18n18 {ρ : Env} {s : St} {Q : Xit → Env → St → Prop} : wp (XK k) f18c18 ρ s Q = wp (XK k) f18c19 ρ s (seqP (XK k) f18c20 Q) := n_seq (by kernel_rfl)
noncomputable def f18c21 : Code := codeAt f18c0 [1, 0, 1, 0, 0, 1, 0, 0, 1, 1]
theorem f18n21 {ρ : Env} {s : St} {Q : Xit → Env → St → Prop} : wp (XK k) f18c21 ρ s Q = Q .normal ρ s := n_skip (by kernel_rfl)
theorem f18n17 {ρ : Env} {s : St} {Q : Xit → Env → St → Prop} : wp (XK k) f18c17 ρ s Q = condP (XK k) (boolOf (evo ρ (.tmp 15))) f18c18 f18c21 ρ s Q := n_cond (by kernel_rfl)
theorem f18n15 {ρ : Env} {s : St} {Q : Xit → Env → St → Prop} : wp (XK k) f18c15 ρ s Q = wp (XK k) f18c16 ρ s (seqP (XK k) f18c17 Q) := n_seq (by kernel_rfl)
theorem f18n14 {ρ : Env} {s : St} {Q : Xit → Env → St → Prop} : wp (XK k) f18c14 ρ s Q = wp (XK k) f18c15 ρ s (blockQ 1 Q) := n_block (by kernel_rfl)
noncomputable def f18c22 : Code := codeAt f18c0 [1, 0, 1, 0, 0, 1, 1]
noncomputable def f18n22 := @n_region (XK k) f18c22 _ _ _ rfl (by kernel_rfl)
theorem f18n13 {ρ : Env} {s : St} {Q : Xit → Env → St → Prop} : wp (XK k) f18c13 ρ s Q = wp (XK k) f18c14 ρ s (seqP (XK k) f18c22 Q) := n_seq (by kernel_rfl)
theorem f18n7 {ρ : Env} {s : St} {Q : Xit → Env → St → Prop} : wp (XK k) f18c7 ρ s Q = wp (XK k) f18c8 ρ s (seqP (XK k) f18c13 Q) := n_seq (by kernel_rfl)
theorem f18n6 {ρ : Env} {s : St} {Q : Xit → Env → St → Prop} : wp (XK k) f18c6 ρ s Q = W (XK k) (.loop f18c7) ρ s Q := n_loop (by kernel_rfl)
theorem f18n5 {ρ : Env} {s : St} {Q : Xit → Env → St → Prop} : wp (XK k) f18c5 ρ s Q = wp (XK k) f18c6 ρ s (blockQ 0 Q) := n_block (by kernel_rfl)
theorem f18n3 {ρ : Env} {s : St} {Q : Xit → Env → St → Prop} : wp (XK k) f18c3 ρ s Q = wp (XK k) f18c4 ρ s (seqP (XK k) f18c5 Q) := n_seq (by kernel_rfl)
noncomputable def f18c23 : Code := codeAt f18c0 [1, 1]
noncomputable def f18c24 : Code := codeAt f18c0 [1, 1, 0]
noncomputable def f18n24 := @n_region (XK k) f18c24 _ _ _ rfl (by kernel_rfl)
noncomputable def f18c25 : Code := codeAt f18c0 [1, 1, 1]
theorem f18n25 {ρ : Env} {s : St} {Q : Xit → Env → St → Prop} : wp (XK k) f18c25 ρ s Q = Q .ret ρ s := n_ret (by kernel_rfl)
theorem f18n23 {ρ : Env} {s : St} {Q : Xit → Env → St → Prop} : wp (XK k) f18c23 ρ s Q = wp (XK k) f18c24 ρ s (seqP (XK k) f18c25 Q) := n_seq (by kernel_rfl)
theorem f18n2 {ρ : Env} {s : St} {Q : Xit → Env → St → Prop} : wp (XK k) f18c2 ρ s Q = wp (XK k) f18c3 ρ s (seqP (XK k) f18c23 Q) := n_seq (by kernel_rfl)
theorem f18n0 {ρ : Env} {s : St} {Q : Xit → Env → St → Prop} : wp (XK k) f18c0 ρ s Q = wp (XK k) f18c1 ρ s (seqP (XK k) f18c2 Q) := n_seq (by kernel_rfl)
theorem f18_in (hk : Closed k) {x0 : Value} {s : St} {Q : Value → St → Prop} (h : wp (XK k) f18c0 (Env.of [x0]) s (rtP (XK k) [.tmp 2] Q)) : WC (XK k) 18 [x0] s Q := WC_in (fn := Try.f18) (c := f18c0) (n := 16) (hk _ _ _) (by kernel_rfl) (by kernel_rfl) (by kernel_rfl) (by kernel_rfl) rfl h
def f18N0 := And.intro (@f18n0 k) (And.intro (@f18n1 k) (And.intro (@f18n2 k) (And.intro (@f18n3 k) (And.intro (@f18n4 k) (And.intro (@f18n5 k) (And.intro (@f18n6 k) (And.intro (@f18n7 k) (And.intro (@f18n8 k) (@f18n9 k)))))))))
def f18N1 := And.intro (@f18n10 k) (And.intro (@f18n11 k) (And.intro (@f18n12 k) (And.intro (@f18n13 k) (And.intro (@f18n14 k) (And.intro (@f18n15 k) (And.intro (@f18n16 k) (And.intro (@f18n17 k) (And.intro (@f18n18 k) (@f18n19 k)))))))))
def f18N2 := And.intro (@f18n20 k) (And.intro (@f18n21 k) (And.intro (@f18n22 k) (And.intro (@f18n23 k) (And.intro (@f18n24 k) (@f18n25 k)))))
noncomputable def f19c0 : Code := bodyOf Try.f19
noncomputable def f19c1 : Code := codeAt f19c0 [0]
noncomputable def f19n1 := @n_region (XK k) f19c1 _ _ _ rfl (by kernel_rfl)
noncomputable def f19c2 : Code := codeAt f19c0 [1]
noncomputable def f19c3 : Code := codeAt f19c0 [1, 0]
noncomputable def f19c4 : Code := codeAt f19c0 [1, 0, 0]
noncomputable def f19n4 := @n_region (XK k) f19c4 _ _ _ rfl (by kernel_rfl)
noncomputable def f19c5 : Code := codeAt f19c0 [1, 0, 1]
noncomputable def f19c6 : Code := codeAt f19c0 [1, 0, 1, 0]
noncomputable def f19c7 : Code := codeAt f19c0 [1, 0, 1, 0, 0]
noncomputable def f19n7 := @n_region (XK k) f19c7 _ _ _ rfl (by kernel_rfl)
noncomputable def f19c8 : Code := codeAt f19c0 [1, 0, 1, 0, 1]
theorem f19n8 {ρ : Env} {s : St} {Q : Xit → Env → St → Prop} : wp (XK k) f19c8 ρ s Q = Q .ret ρ s := n_ret (by kernel_rfl)
theorem f19n6 {ρ : Env} {s : St} {Q : Xit → Env → St → Prop} : wp (XK k) f19c6 ρ s Q = wp (XK k) f19c7 ρ s (seqP (XK k) f19c8 Q) := n_seq (by kernel_rfl)
noncomputable def f19c9 : Code := codeAt f19c0 [1, 0, 1, 1]
theorem f19n9 {ρ : Env} {s : St} {Q : Xit → Env → St → Prop} : wp (XK k) f19c9 ρ s Q = Q .normal ρ s := n_skip (by kernel_rfl)
theorem f19n5 {ρ : Env} {s : St} {Q : Xit → Env → St → Prop} : wp (XK k) f19c5 ρ s Q = condP (XK k) (boolOf (evo ρ (.tmp 13))) f19c6 f19c9 ρ s Q := n_cond (by kernel_rfl)
theorem f19n3 {ρ : Env} {s : St} {Q : Xit → Env → St → Prop} : wp (XK k) f19c3 ρ s Q = wp (XK k) f19c4 ρ s (seqP (XK k) f19c5 Q) := n_seq (by kernel_rfl)
noncomputable def f19c10 : Code := codeAt f19c0 [1, 1]
noncomputable def f19c11 : Code := codeAt f19c0 [1, 1, 0]
noncomputable def f19n11 := @n_region (XK k) f19c11 _ _ _ rfl (by kernel_rfl)
noncomputable def f19c12 : Code := codeAt f19c0 [1, 1, 1]
noncomputable def f19c13 : Code := codeAt f19c0 [1, 1, 1, 0]
noncomputable def f19n13 := @n_region (XK k) f19c13 _ _ _ rfl (by kernel_rfl)
noncomputable def f19c14 : Code := codeAt f19c0 [1, 1, 1, 1]
noncomputable def f19c15 : Code := codeAt f19c0 [1, 1, 1, 1, 0]
noncomputable def f19c16 : Code := codeAt f19c0 [1, 1, 1, 1, 0, 0]
noncomputable def f19n16 := @n_region (XK k) f19c16 _ _ _ rfl (by kernel_rfl)
noncomputable def f19c17 : Code := codeAt f19c0 [1, 1, 1, 1, 0, 1]
noncomputable def f19c18 : Code := codeAt f19c0 [1, 1, 1, 1, 0, 1, 0]
noncomputable def f19n18 := @n_region (XK k) f19c18 _ _ _ rfl (by kernel_rfl)
noncomputable def f19c19 : Code := codeAt f19c0 [1, 1, 1, 1, 0, 1, 1]
noncomputable def f19c20 : Code := codeAt f19c0 [1, 1, 1, 1, 0, 1, 1, 0]
noncomputable def f19n20 := @n_region (XK k) f19c20 _ _ _ rfl (by kernel_rfl)
noncomputable def f19c21 : Code := codeAt f19c0 [1, 1, 1, 1, 0, 1, 1, 1]
noncomputable def f19c22 : Code := codeAt f19c0 [1, 1, 1, 1, 0, 1, 1, 1, 0]
noncomputable def f19n22 := @n_region (XK k) f19c22 _ _ _ rfl (by kernel_rfl)
noncomputable def f19c23 : Code := codeAt f19c0 [1, 1, 1, 1, 0, 1, 1, 1, 1]
noncomputable def f19n23 := @n_region (XK k) f19c23 _ _ _ rfl (by kernel_rfl)
theorem f19n21 {ρ : Env} {s : St} {Q : Xit → Env → St → Prop} : wp (XK k) f19c21 ρ s Q = condP (XK k) (boolOf (evo ρ (.tmp 33))) f19c22 f19c23 ρ s Q := n_cond (by kernel_rfl)
theorem f19n19 {ρ : Env} {s : St} {Q : Xit → Env → St → Prop} : wp (XK k) f19c19 ρ s Q = wp (XK k) f19c20 ρ s (seqP (XK k) f19c21 Q) := n_seq (by kernel_rfl)
theorem f19n17 {ρ : Env} {s : St} {Q : Xit → Env → St → Prop} : wp (XK k) f19c17 ρ s Q = condP (XK k) (boolOf (evo ρ (.tmp 26))) f19c18 f19c19 ρ s Q := n_cond (by kernel_rfl)
theorem f19n15 {ρ : Env} {s : St} {Q : Xit → Env → St → Prop} : wp (XK k) f19c15 ρ s Q = wp (XK k) f19c16 ρ s (seqP (XK k) f19c17 Q) := n_seq (by kernel_rfl)
noncomputable def f19c24 : Code := codeAt f19c0 [1, 1, 1, 1, 1]
noncomputable def f19c25 : Code := codeAt f19c0 [1, 1, 1, 1, 1, 0]
noncomputable def f19c26 : Code := codeAt f19c0 [1, 1, 1, 1, 1, 0, 0]
noncomputable def f19n26 := @n_region (XK k) f19c26 _ _ _ rfl (by kernel_rfl)
noncomputable def f19c27 : Code := codeAt f19c0 [1, 1, 1, 1, 1, 0, 1]
noncomputable def f19c28 : Code := codeAt f19c0 [1, 1, 1, 1, 1, 0, 1, 0]
noncomputable def f19n28 := @n_region (XK k) f19c28 _ _ _ rfl (by kernel_rfl)
noncomputable def f19c29 : Code := codeAt f19c0 [1, 1, 1, 1, 1, 0, 1, 1]
theorem f19n29 {ρ : Env} {s : St} {Q : Xit → Env → St → Prop} : wp (XK k) f19c29 ρ s Q = Q .normal ρ s := n_skip (by kernel_rfl)
theorem f19n27 {ρ : Env} {s : St} {Q : Xit → Env → St → Prop} : wp (XK k) f19c27 ρ s Q = condP (XK k) (boolOf (evo ρ (.tmp 59))) f19c28 f19c29 ρ s Q := n_cond (by kernel_rfl)
theorem f19n25 {ρ : Env} {s : St} {Q : Xit → Env → St → Prop} : wp (XK k) f19c25 ρ s Q = wp (XK k) f19c26 ρ s (seqP (XK k) f19c27 Q) := n_seq (by kernel_rfl)
noncomputable def f19c30 : Code := codeAt f19c0 [1, 1, 1, 1, 1, 1]
noncomputable def f19c31 : Code := codeAt f19c0 [1, 1, 1, 1, 1, 1, 0]
noncomputable def f19n31 := @n_region (XK k) f19c31 _ _ _ rfl (by kernel_rfl)
noncomputable def f19c32 : Code := codeAt f19c0 [1, 1, 1, 1, 1, 1, 1]
theorem f19n32 {ρ : Env} {s : St} {Q : Xit → Env → St → Prop} : wp (XK k) f19c32 ρ s Q = Q .ret ρ s := n_ret (by kernel_rfl)
theorem f19n30 {ρ : Env} {s : St} {Q : Xit → Env → St → Prop} : wp (XK k) f19c30 ρ s Q = wp (XK k) f19c31 ρ s (seqP (XK k) f19c32 Q) := n_seq (by kernel_rfl)
theorem f19n24 {ρ : Env} {s : St} {Q : Xit → Env → St → Prop} : wp (XK k) f19c24 ρ s Q = wp (XK k) f19c25 ρ s (seqP (XK k) f19c30 Q) := n_seq (by kernel_rfl)
theorem f19n14 {ρ : Env} {s : St} {Q : Xit → Env → St → Prop} : wp (XK k) f19c14 ρ s Q = wp (XK k) f19c15 ρ s (seqP (XK k) f19c24 Q) := n_seq (by kernel_rfl)
theorem f19n12 {ρ : Env} {s : St} {Q : Xit → Env → St → Prop} : wp (XK k) f19c12 ρ s Q = wp (XK k) f19c13 ρ s (seqP (XK k) f19c14 Q) := n_seq (by kernel_rfl)
theorem f19n10 {ρ : Env} {s : St} {Q : Xit → Env → St → Prop} : wp (XK k) f19c10 ρ s Q = wp (XK k) f19c11 ρ s (seqP (XK k) f19c12 Q) := n_seq (by kernel_rfl)
theorem f19n2 {ρ : Env} {s : St} {Q : Xit → Env → St → Prop} : wp (XK k) f19c2 ρ s Q = wp (XK k) f19c3 ρ s (seqP (XK k) f19c10 Q) := n_seq (by kernel_rfl)
theorem f19n0 {ρ : Env} {s : St} {Q : Xit → Env → St → Prop} : wp (XK k) f19c0 ρ s Q = wp (XK k) f19c1 ρ s (seqP (XK k) f19c2 Q) := n_seq (by kernel_rfl)
theorem f19_in (hk : Closed k) {x0 : Value} {x1 : Value} {x2 : Value} {x3 : Value} {s : St} {Q : Value → St → Prop} (h : wp (XK k) f19c0 (Env.of [x0, x1, x2, x3]) s (rtP (XK k) [.cell 8 38] Q)) : WC (XK k) 19 [x0, x1, x2, x3] s Q := WC_in (fn := Try.f19) (c := f19c0) (n := 67) (hk _ _ _) (by kernel_rfl) (by kernel_rfl) (by kernel_rfl) (by kernel_rfl) rfl h
def f19N0 := And.intro (@f19n0 k) (And.intro (@f19n1 k) (And.intro (@f19n2 k) (And.intro (@f19n3 k) (And.intro (@f19n4 k) (And.intro (@f19n5 k) (And.intro (@f19n6 k) (And.intro (@f19n7 k) (And.intro (@f19n8 k) (@f19n9 k)))))))))
def f19N1 := And.intro (@f19n10 k) (And.intro (@f19n11 k) (And.intro (@f19n12 k) (And.intro (@f19n13 k) (And.intro (@f19n14 k) (And.intro (@f19n15 k) (And.intro (@f19n16 k) (And.intro (@f19n17 k) (And.intro (@f19n18 k) (@f19n19 k)))))))))
def f19N2 := And.intro (@f19n20 k) (And.intro (@f19n21 k) (And.intro (@f19n22 k) (And.intro (@f19n23 k) (And.intro (@f19n24 k) (And.intro (@f19n25 k) (And.intro (@f19n26 k) (And.intro (@f19n27 k) (And.intro (@f19n28 k) (@f19n29 k)))))))))
def f19N3 := And.intro (@f19n30 k) (And.intro (@f19n31 k) (@f19n32 k))
noncomputable def f20c0 : Code := bodyOf Try.f20
noncomputable def f20c1 : Code := codeAt f20c0 [0]
noncomputable def f20n1 := @n_region (XK k) f20c1 _ _ _ rfl (by kernel_rfl)
noncomputable def f20c2 : Code := codeAt f20c0 [1]
noncomputable def f20c3 : Code := codeAt f20c0 [1, 0]
noncomputable def f20c4 : Code := codeAt f20c0 [1, 0, 0]
noncomputable def f20n4 := @n_region (XK k) f20c4 _ _ _ rfl (by kernel_rfl)
noncomputable def f20c5 : Code := codeAt f20c0 [1, 0, 1]
noncomputable def f20c6 : Code := codeAt f20c0 [1, 0, 1, 0]
noncomputable def f20c7 : Code := codeAt f20c0 [1, 0, 1, 0, 0]
noncomputable def f20n7 := @n_region (XK k) f20c7 _ _ _ rfl (by kernel_rfl)
noncomputable def f20c8 : Code := codeAt f20c0 [1, 0, 1, 0, 1]
theorem f20n8 {ρ : Env} {s : St} {Q : Xit → Env → St → Prop} : wp (XK k) f20c8 ρ s Q = Q .ret ρ s := n_ret (by kernel_rfl)
theorem f20n6 {ρ : Env} {s : St} {Q : Xit → Env → St → Prop} : wp (XK k) f20c6 ρ s Q = wp (XK k) f20c7 ρ s (seqP (XK k) f20c8 Q) := n_seq (by kernel_rfl)
noncomputable def f20c9 : Code := codeAt f20c0 [1, 0, 1, 1]
theorem f20n9 {ρ : Env} {s : St} {Q : Xit → Env → St → Prop} : wp (XK k) f20c9 ρ s Q = Q .normal ρ s := n_skip (by kernel_rfl)
theorem f20n5 {ρ : Env} {s : St} {Q : Xit → Env → St → Prop} : wp (XK k) f20c5 ρ s Q = condP (XK k) (boolOf (evo ρ (.tmp 4))) f20c6 f20c9 ρ s Q := n_cond (by kernel_rfl)
theorem f20n3 {ρ : Env} {s : St} {Q : Xit → Env → St → Prop} : wp (XK k) f20c3 ρ s Q = wp (XK k) f20c4 ρ s (seqP (XK k) f20c5 Q) := n_seq (by kernel_rfl)
noncomputable def f20c10 : Code := codeAt f20c0 [1, 1]
noncomputable def f20c11 : Code := codeAt f20c0 [1, 1, 0]
noncomputable def f20n11 := @n_region (XK k) f20c11 _ _ _ rfl (by kernel_rfl)
noncomputable def f20c12 : Code := codeAt f20c0 [1, 1, 1]
theorem f20n12 {ρ : Env} {s : St} {Q : Xit → Env → St → Prop} : wp (XK k) f20c12 ρ s Q = Q .ret ρ s := n_ret (by kernel_rfl)
theorem f20n10 {ρ : Env} {s : St} {Q : Xit → Env → St → Prop} : wp (XK k) f20c10 ρ s Q = wp (XK k) f20c11 ρ s (seqP (XK k) f20c12 Q) := n_seq (by kernel_rfl)
theorem f20n2 {ρ : Env} {s : St} {Q : Xit → Env → St → Prop} : wp (XK k) f20c2 ρ s Q = wp (XK k) f20c3 ρ s (seqP (XK k) f20c10 Q) := n_seq (by kernel_rfl)
theorem f20n0 {ρ : Env} {s : St} {Q : Xit → Env → St → Prop} : wp (XK k) f20c0 ρ s Q = wp (XK k) f20c1 ρ s (seqP (XK k) f20c2 Q) := n_seq (by kernel_rfl)
theorem f20_in (hk : Closed k) {x0 : Value} {s : St} {Q : Value → St → Prop} (h : wp (XK k) f20c0 (Env.of [x0]) s (rtP (XK k) [.tmp 2] Q)) : WC (XK k) 20 [x0] s Q := WC_in (fn := Try.f20) (c := f20c0) (n := 14) (hk _ _ _) (by kernel_rfl) (by kernel_rfl) (by kernel_rfl) (by kernel_rfl) rfl h
def f20N0 := And.intro (@f20n0 k) (And.intro (@f20n1 k) (And.intro (@f20n2 k) (And.intro (@f20n3 k) (And.intro (@f20n4 k) (And.intro (@f20n5 k) (And.intro (@f20n6 k) (And.intro (@f20n7 k) (And.intro (@f20n8 k) (@f20n9 k)))))))))
def f20N1 := And.intro (@f20n10 k) (And.intro (@f20n11 k) (@f20n12 k))
noncomputable def f21c0 : Code := bodyOf Try.f21
noncomputable def f21c1 : Code := codeAt f21c0 [0]
noncomputable def f21n1 := @n_region (XK k) f21c1 _ _ _ rfl (by kernel_rfl)
noncomputable def f21c2 : Code := codeAt f21c0 [1]
noncomputable def f21c3 : Code := codeAt f21c0 [1, 0]
noncomputable def f21c4 : Code := codeAt f21c0 [1, 0, 0]
noncomputable def f21n4 := @n_region (XK k) f21c4 _ _ _ rfl (by kernel_rfl)
noncomputable def f21c5 : Code := codeAt f21c0 [1, 0, 1]
noncomputable def f21c6 : Code := codeAt f21c0 [1, 0, 1, 0]
noncomputable def f21c7 : Code := codeAt f21c0 [1, 0, 1, 0, 0]
noncomputable def f21n7 := @n_region (XK k) f21c7 _ _ _ rfl (by kernel_rfl)
noncomputable def f21c8 : Code := codeAt f21c0 [1, 0, 1, 0, 1]
theorem f21n8 {ρ : Env} {s : St} {Q : Xit → Env → St → Prop} : wp (XK k) f21c8 ρ s Q = Q .ret ρ s := n_ret (by kernel_rfl)
theorem f21n6 {ρ : Env} {s : St} {Q : Xit → Env → St → Prop} : wp (XK k) f21c6 ρ s Q = wp (XK k) f21c7 ρ s (seqP (XK k) f21c8 Q) := n_seq (by kernel_rfl)
noncomputable def f21c9 : Code := codeAt f21c0 [1, 0, 1, 1]
theorem f21n9 {ρ : Env} {s : St} {Q : Xit → Env → St → Prop} : wp (XK k) f21c9 ρ s Q = Q .normal ρ s := n_skip (by kernel_rfl)
theorem f21n5 {ρ : Env} {s : St} {Q : Xit → Env → St → Prop} : wp (XK k) f21c5 ρ s Q = condP (XK k) (boolOf (evo ρ (.tmp 10))) f21c6 f21c9 ρ s Q := n_cond (by kernel_rfl)
theorem f21n3 {ρ : Env} {s : St} {Q : Xit → Env → St → Prop} : wp (XK k) f21c3 ρ s Q = wp (XK k) f21c4 ρ s (seqP (XK k) f21c5 Q) := n_seq (by kernel_rfl)
noncomputable def f21c10 : Code := codeAt f21c0 [1, 1]
noncomputable def f21c11 : Code := codeAt f21c0 [1, 1, 0]
noncomputable def f21c12 : Code := codeAt f21c0 [1, 1, 0, 0]
noncomputable def f21n12 := @n_region (XK k) f21c12 _ _ _ rfl (by kernel_rfl)
noncomputable def f21c13 : Code := codeAt f21c0 [1, 1, 0, 1]
noncomputable def f21c14 : Code := codeAt f21c0 [1, 1, 0, 1, 0]
noncomputable def f21c15 : Code := codeAt f21c0 [1, 1, 0, 1, 0, 0]
noncomputable def f21c16 : Code := codeAt f21c0 [1, 1, 0, 1, 0, 0, 0]
noncomputable def f21c17 : Code := codeAt f21c0 [1, 1, 0, 1, 0, 0, 0, 0]
noncomputable def f21n17 := @n_region (XK k) f21c17 _ _ _ rfl (by kernel_rfl)
noncomputable def f21c18 : Code := codeAt f21c0 [1, 1, 0, 1, 0, 0, 0, 1]
noncomputable def f21c19 : Code := codeAt f21c0 [1, 1, 0, 1, 0, 0, 0, 1, 0]
theorem f21n19 {ρ : Env} {s : St} {Q : Xit → Env → St → Prop} : wp (XK k) f21c19 ρ s Q = Q .normal ρ s := n_skip (by kernel_rfl)
noncomputable def f21c20 : Code := codeAt f21c0 [1, 1, 0, 1, 0, 0, 0, 1, 1]
theorem f21n20 {ρ : Env} {s : St} {Q : Xit → Env → St → Prop} : wp (XK k) f21c20 ρ s Q = Q (.exit 0) ρ s := n_exit (by kernel_rfl)
theorem f21n18 {ρ : Env} {s : St} {Q : Xit → Env → St → Prop} : wp (XK k) f21c18 ρ s Q = condP (XK k) (boolOf (evo ρ (.tmp 14))) f21c19 f21c20 ρ s Q := n_cond (by kernel_rfl)
theorem f21n16 {ρ : Env} {s : St} {Q : Xit → Env → St → Prop} : wp (XK k) f21c16 ρ s Q = wp (XK k) f21c17 ρ s (seqP (XK k) f21c18 Q) := n_seq (by kernel_rfl)
noncomputable def f21c21 : Code := codeAt f21c0 [1, 1, 0, 1, 0, 0, 1]
noncomputable def f21c22 : Code := codeAt f21c0 [1, 1, 0, 1, 0, 0, 1, 0]
noncomputable def f21c23 : Code := codeAt f21c0 [1, 1, 0, 1, 0, 0, 1, 0, 0]
noncomputable def f21c24 : Code := codeAt f21c0 [1, 1, 0, 1, 0, 0, 1, 0, 0, 0]
noncomputable def f21n24 := @n_region (XK k) f21c24 _ _ _ rfl (by kernel_rfl)
noncomputable def f21c25 : Code := codeAt f21c0 [1, 1, 0, 1, 0, 0, 1, 0, 0, 1]
noncomputable def f21c26 : Code := codeAt f21c0 [1, 1, 0, 1, 0, 0, 1, 0, 0, 1, 0]
noncomputable def f21c27 : Code := codeAt f21c0 [1, 1, 0, 1, 0, 0, 1, 0, 0, 1, 0, 0]
noncomputable def f21n27 := @n_region (XK k) f21c27 _ _ _ rfl (by kernel_rfl)
noncomputable def f21c28 : Code := codeAt f21c0 [1, 1, 0, 1, 0, 0, 1, 0, 0, 1, 0, 1]
theorem f21n28 {ρ : Env} {s : St} {Q : Xit → Env → St → Prop} : wp (XK k) f21c28 ρ s Q = Q .ret ρ s := n_ret (by kernel_rfl)
theorem f21n26 {ρ : Env} {s : St} {Q : Xit → Env → St → Prop} : wp (XK k) f21c26 ρ s Q = wp (XK k) f21c27 ρ s (seqP (XK k) f21c28 Q) := n_seq (by kernel_rfl)
noncomputable def f21c29 : Code := codeAt f21c0 [1, 1, 0, 1, 0, 0, 1, 0, 0, 1, 1]
theorem f21n29 {ρ : Env} {s : St} {Q : Xit → Env → St → Prop} : wp (XK k) f21c29 ρ s Q = Q .normal ρ s := n_skip (by kernel_rfl)
theorem f21n25 {ρ : Env} {s : St} {Q : Xit → Env → St → Prop} : wp (XK k) f21c25 ρ s Q = condP (XK k) (boolOf (evo ρ (.tmp 25))) f21c26 f21c29 ρ s Q := n_cond (by kernel_rfl)
theorem f21n23 {ρ : Env} {s : St} {Q : Xit → Env → St → Prop} : wp (XK k) f21c23 ρ s Q = wp (XK k) f21c24 ρ s (seqP (XK k) f21c25 Q) := n_seq (by kernel_rfl)
theorem f21n22 {ρ : Env} {s : St} {Q : Xit → Env → St → Prop} : wp (XK k) f21c22 ρ s Q = wp (XK k) f21c23 ρ s (blockQ 1 Q) := n_block (by kernel_rfl)
noncomputable def f21c30 : Code := codeAt f21c0 [1, 1, 0, 1, 0, 0, 1, 1]
noncomputable def f21n30 := @n_region (XK k) f21c30 _ _ _ rfl (by kernel_rfl)
theorem f21n21 {ρ : Env} {s : St} {Q : Xit → Env → St → Prop} : wp (XK k) f21c21 ρ s Q = wp (XK k) f21c22 ρ s (seqP (XK k) f21c30 Q) := n_seq (by kernel_rfl)
theorem f21n15 {ρ : Env} {s : St} {Q : Xit → Env → St → Prop} : wp (XK k) f21c15 ρ s Q = wp (XK k) f21c16 ρ s (seqP (XK k) f21c21 Q) := n_seq (by kernel_rfl)
theorem f21n14 {ρ : Env} {s : St} {Q : Xit → Env → St → Prop} : wp (XK k) f21c14 ρ s Q = W (XK k) (.loop f21c15) ρ s Q := n_loop (by kernel_rfl)
theorem f21n13 {ρ : Env} {s : St} {Q : Xit → Env → St → Prop} : wp (XK k) f21c13 ρ s Q = wp (XK k) f21c14 ρ s (blockQ 0 Q) := n_block (by kernel_rfl)
theorem f21n11 {ρ : Env} {s : St} {Q : Xit → Env → St → Prop} : wp (XK k) f21c11 ρ s Q = wp (XK k) f21c12 ρ s (seqP (XK k) f21c13 Q) := n_seq (by kernel_rfl)
noncomputable def f21c31 : Code := codeAt f21c0 [1, 1, 1]
noncomputable def f21c32 : Code := codeAt f21c0 [1, 1, 1, 0]
noncomputable def f21n32 := @n_region (XK k) f21c32 _ _ _ rfl (by kernel_rfl)
noncomputable def f21c33 : Code := codeAt f21c0 [1, 1, 1, 1]
theorem f21n33 {ρ : Env} {s : St} {Q : Xit → Env → St → Prop} : wp (XK k) f21c33 ρ s Q = Q .ret ρ s := n_ret (by kernel_rfl)
theorem f21n31 {ρ : Env} {s : St} {Q : Xit → Env → St → Prop} : wp (XK k) f21c31 ρ s Q = wp (XK k) f21c32 ρ s (seqP (XK k) f21c33 Q) := n_seq (by kernel_rfl)
theorem f21n10 {ρ : Env} {s : St} {Q : Xit → Env → St → Prop} : wp (XK k) f21c10 ρ s Q = wp (XK k) f21c11 ρ s (seqP (XK k) f21c31 Q) := n_seq (by kernel_rfl)
theorem f21n2 {ρ : Env} {s : St} {Q : Xit → Env → St → Prop} : wp (XK k) f21c2 ρ s Q = wp (XK k) f21c3 ρ s (seqP (XK k) f21c10 Q) := n_seq (by kernel_rfl)
theorem f21n0 {ρ : Env} {s : St} {Q : Xit → Env → St → Prop} : wp (XK k) f21c0 ρ s Q = wp (XK k) f21c1 ρ s (seqP (XK k) f21c2 Q) := n_seq (by kernel_rfl)
theorem f21_in (hk : Closed k) {x0 : Value} {x1 : Value} {s : St} {Q : Value → St → Prop} (h : wp (XK k) f21c0 (Env.of [x0, x1]) s (rtP (XK k) [.tmp 4] Q)) : WC (XK k) 21 [x0, x1] s Q := WC_in (fn := Try.f21) (c := f21c0) (n := 26) (hk _ _ _) (by kernel_rfl) (by kernel_rfl) (by kernel_rfl) (by kernel_rfl) rfl h
def f21N0 := And.intro (@f21n0 k) (And.intro (@f21n1 k) (And.intro (@f21n2 k) (And.intro (@f21n3 k) (And.intro (@f21n4 k) (And.intro (@f21n5 k) (And.intro (@f21n6 k) (And.intro (@f21n7 k) (And.intro (@f21n8 k) (@f21n9 k)))))))))
def f21N1 := And.intro (@f21n10 k) (And.intro (@f21n11 k) (And.intro (@f21n12 k) (And.intro (@f21n13 k) (And.intro (@f21n14 k) (And.intro (@f21n15 k) (And.intro (@f21n16 k) (And.intro (@f21n17 k) (And.intro (@f21n18 k) (@f21n19 k)))))))))
def f21N2 := And.intro (@f21n20 k) (And.intro (@f21n21 k) (And.intro (@f21n22 k) (And.intro (@f21n23 k) (And.intro (@f21n24 k) (And.intro (@f21n25 k) (And.intro (@f21n26 k) (And.intro (@f21n27 k) (And.intro (@f21n28 k) (@f21n29 k)))))))))
def f21N3 := And.intro (@f21n30 k) (And.intro (@f21n31 k) (And.intro (@f21n32 k) (@f21n33 k)))
noncomputable def f22c0 : Code := bodyOf Try.f22
noncomputable def f22c1 : Code := codeAt f22c0 [0]
noncomputable def f22n1 := @n_region (XK k) f22c1 _ _ _ rfl (by kernel_rfl)
noncomputable def f22c2 : Code := codeAt f22c0 [1]
noncomputable def f22c3 : Code := codeAt f22c0 [1, 0]
noncomputable def f22c4 : Code := codeAt f22c0 [1, 0, 0]
noncomputable def f22n4 := @n_region (XK k) f22c4 _ _ _ rfl (by kernel_rfl)
noncomputable def f22c5 : Code := codeAt f22c0 [1, 0, 1]
noncomputable def f22c6 : Code := codeAt f22c0 [1, 0, 1, 0]
noncomputable def f22c7 : Code := codeAt f22c0 [1, 0, 1, 0, 0]
noncomputable def f22n7 := @n_region (XK k) f22c7 _ _ _ rfl (by kernel_rfl)
noncomputable def f22c8 : Code := codeAt f22c0 [1, 0, 1, 0, 1]
theorem f22n8 {ρ : Env} {s : St} {Q : Xit → Env → St → Prop} : wp (XK k) f22c8 ρ s Q = Q .ret ρ s := n_ret (by kernel_rfl)
theorem f22n6 {ρ : Env} {s : St} {Q : Xit → Env → St → Prop} : wp (XK k) f22c6 ρ s Q = wp (XK k) f22c7 ρ s (seqP (XK k) f22c8 Q) := n_seq (by kernel_rfl)
noncomputable def f22c9 : Code := codeAt f22c0 [1, 0, 1, 1]
theorem f22n9 {ρ : Env} {s : St} {Q : Xit → Env → St → Prop} : wp (XK k) f22c9 ρ s Q = Q .normal ρ s := n_skip (by kernel_rfl)
theorem f22n5 {ρ : Env} {s : St} {Q : Xit → Env → St → Prop} : wp (XK k) f22c5 ρ s Q = condP (XK k) (boolOf (evo ρ (.tmp 5))) f22c6 f22c9 ρ s Q := n_cond (by kernel_rfl)
theorem f22n3 {ρ : Env} {s : St} {Q : Xit → Env → St → Prop} : wp (XK k) f22c3 ρ s Q = wp (XK k) f22c4 ρ s (seqP (XK k) f22c5 Q) := n_seq (by kernel_rfl)
noncomputable def f22c10 : Code := codeAt f22c0 [1, 1]
noncomputable def f22c11 : Code := codeAt f22c0 [1, 1, 0]
noncomputable def f22n11 := @n_regionD (XK k) f22c11 _ _ _ [(2, []), (1, []), (2, [1]), (2, [1]), (2, [1]), (2, [1]), (1, []), (2, [])] rfl (by kernel_rfl) (by kernel_rfl) (by kernel_rfl)
noncomputable def f22c12 : Code := codeAt f22c0 [1, 1, 1]
theorem f22n12 {ρ : Env} {s : St} {Q : Xit → Env → St → Prop} : wp (XK k) f22c12 ρ s Q = Q .ret ρ s := n_ret (by kernel_rfl)
theorem f22n10 {ρ : Env} {s : St} {Q : Xit → Env → St → Prop} : wp (XK k) f22c10 ρ s Q = wp (XK k) f22c11 ρ s (seqP (XK k) f22c12 Q) := n_seq (by kernel_rfl)
theorem f22n2 {ρ : Env} {s : St} {Q : Xit → Env → St → Prop} : wp (XK k) f22c2 ρ s Q = wp (XK k) f22c3 ρ s (seqP (XK k) f22c10 Q) := n_seq (by kernel_rfl)
theorem f22n0 {ρ : Env} {s : St} {Q : Xit → Env → St → Prop} : wp (XK k) f22c0 ρ s Q = wp (XK k) f22c1 ρ s (seqP (XK k) f22c2 Q) := n_seq (by kernel_rfl)
theorem f22_in (hk : Closed k) {x0 : Value} {s : St} {Q : Value → St → Prop} (h : wp (XK k) f22c0 (Env.of [x0]) s (rtP (XK k) [.tmp 2] Q)) : WC (XK k) 22 [x0] s Q := WC_in (fn := Try.f22) (c := f22c0) (n := 13) (hk _ _ _) (by kernel_rfl) (by kernel_rfl) (by kernel_rfl) (by kernel_rfl) rfl h
def f22N0 := And.intro (@f22n0 k) (And.intro (@f22n1 k) (And.intro (@f22n2 k) (And.intro (@f22n3 k) (And.intro (@f22n4 k) (And.intro (@f22n5 k) (And.intro (@f22n6 k) (And.intro (@f22n7 k) (And.intro (@f22n8 k) (@f22n9 k)))))))))
def f22N1 := And.intro (@f22n10 k) (And.intro (@f22n11 k) (@f22n12 k))
noncomputable def f23c0 : Code := bodyOf Try.f23
noncomputable def f23c1 : Code := codeAt f23c0 [0]
noncomputable def f23n1 := @n_region (XK k) f23c1 _ _ _ rfl (by kernel_rfl)
noncomputable def f23c2 : Code := codeAt f23c0 [1]
noncomputable def f23c3 : Code := codeAt f23c0 [1, 0]
noncomputable def f23c4 : Code := codeAt f23c0 [1, 0, 0]
noncomputable def f23n4 := @n_region (XK k) f23c4 _ _ _ rfl (by kernel_rfl)
noncomputable def f23c5 : Code := codeAt f23c0 [1, 0, 1]
noncomputable def f23c6 : Code := codeAt f23c0 [1, 0, 1, 0]
noncomputable def f23c7 : Code := codeAt f23c0 [1, 0, 1, 0, 0]
noncomputable def f23n7 := @n_region (XK k) f23c7 _ _ _ rfl (by kernel_rfl)
noncomputable def f23c8 : Code := codeAt f23c0 [1, 0, 1, 0, 1]
theorem f23n8 {ρ : Env} {s : St} {Q : Xit → Env → St → Prop} : wp (XK k) f23c8 ρ s Q = Q .ret ρ s := n_ret (by kernel_rfl)
theorem f23n6 {ρ : Env} {s : St} {Q : Xit → Env → St → Prop} : wp (XK k) f23c6 ρ s Q = wp (XK k) f23c7 ρ s (seqP (XK k) f23c8 Q) := n_seq (by kernel_rfl)
noncomputable def f23c9 : Code := codeAt f23c0 [1, 0, 1, 1]
theorem f23n9 {ρ : Env} {s : St} {Q : Xit → Env → St → Prop} : wp (XK k) f23c9 ρ s Q = Q .normal ρ s := n_skip (by kernel_rfl)
theorem f23n5 {ρ : Env} {s : St} {Q : Xit → Env → St → Prop} : wp (XK k) f23c5 ρ s Q = condP (XK k) (boolOf (evo ρ (.tmp 6))) f23c6 f23c9 ρ s Q := n_cond (by kernel_rfl)
theorem f23n3 {ρ : Env} {s : St} {Q : Xit → Env → St → Prop} : wp (XK k) f23c3 ρ s Q = wp (XK k) f23c4 ρ s (seqP (XK k) f23c5 Q) := n_seq (by kernel_rfl)
noncomputable def f23c10 : Code := codeAt f23c0 [1, 1]
noncomputable def f23c11 : Code := codeAt f23c0 [1, 1, 0]
noncomputable def f23n11 := @n_region (XK k) f23c11 _ _ _ rfl (by kernel_rfl)
noncomputable def f23c12 : Code := codeAt f23c0 [1, 1, 1]
theorem f23n12 {ρ : Env} {s : St} {Q : Xit → Env → St → Prop} : wp (XK k) f23c12 ρ s Q = Q .ret ρ s := n_ret (by kernel_rfl)
theorem f23n10 {ρ : Env} {s : St} {Q : Xit → Env → St → Prop} : wp (XK k) f23c10 ρ s Q = wp (XK k) f23c11 ρ s (seqP (XK k) f23c12 Q) := n_seq (by kernel_rfl)
theorem f23n2 {ρ : Env} {s : St} {Q : Xit → Env → St → Prop} : wp (XK k) f23c2 ρ s Q = wp (XK k) f23c3 ρ s (seqP (XK k) f23c10 Q) := n_seq (by kernel_rfl)
theorem f23n0 {ρ : Env} {s : St} {Q : Xit → Env → St → Prop} : wp (XK k) f23c0 ρ s Q = wp (XK k) f23c1 ρ s (seqP (XK k) f23c2 Q) := n_seq (by kernel_rfl)
theorem f23_in (hk : Closed k) {x0 : Value} {s : St} {Q : Value → St → Prop} (h : wp (XK k) f23c0 (Env.of [x0]) s (rtP (XK k) [.tmp 2] Q)) : WC (XK k) 23 [x0] s Q := WC_in (fn := Try.f23) (c := f23c0) (n := 13) (hk _ _ _) (by kernel_rfl) (by kernel_rfl) (by kernel_rfl) (by kernel_rfl) rfl h
def f23N0 := And.intro (@f23n0 k) (And.intro (@f23n1 k) (And.intro (@f23n2 k) (And.intro (@f23n3 k) (And.intro (@f23n4 k) (And.intro (@f23n5 k) (And.intro (@f23n6 k) (And.intro (@f23n7 k) (And.intro (@f23n8 k) (@f23n9 k)))))))))
def f23N1 := And.intro (@f23n10 k) (And.intro (@f23n11 k) (@f23n12 k))
noncomputable def f24c0 : Code := bodyOf Try.f24
noncomputable def f24c1 : Code := codeAt f24c0 [0]
noncomputable def f24n1 := @n_region (XK k) f24c1 _ _ _ rfl (by kernel_rfl)
noncomputable def f24c2 : Code := codeAt f24c0 [1]
noncomputable def f24c3 : Code := codeAt f24c0 [1, 0]
noncomputable def f24c4 : Code := codeAt f24c0 [1, 0, 0]
noncomputable def f24n4 := @n_region (XK k) f24c4 _ _ _ rfl (by kernel_rfl)
noncomputable def f24c5 : Code := codeAt f24c0 [1, 0, 1]
noncomputable def f24c6 : Code := codeAt f24c0 [1, 0, 1, 0]
noncomputable def f24c7 : Code := codeAt f24c0 [1, 0, 1, 0, 0]
noncomputable def f24n7 := @n_region (XK k) f24c7 _ _ _ rfl (by kernel_rfl)
noncomputable def f24c8 : Code := codeAt f24c0 [1, 0, 1, 0, 1]
theorem f24n8 {ρ : Env} {s : St} {Q : Xit → Env → St → Prop} : wp (XK k) f24c8 ρ s Q = Q .ret ρ s := n_ret (by kernel_rfl)
theorem f24n6 {ρ : Env} {s : St} {Q : Xit → Env → St → Prop} : wp (XK k) f24c6 ρ s Q = wp (XK k) f24c7 ρ s (seqP (XK k) f24c8 Q) := n_seq (by kernel_rfl)
noncomputable def f24c9 : Code := codeAt f24c0 [1, 0, 1, 1]
theorem f24n9 {ρ : Env} {s : St} {Q : Xit → Env → St → Prop} : wp (XK k) f24c9 ρ s Q = Q .normal ρ s := n_skip (by kernel_rfl)
theorem f24n5 {ρ : Env} {s : St} {Q : Xit → Env → St → Prop} : wp (XK k) f24c5 ρ s Q = condP (XK k) (boolOf (evo ρ (.tmp 10))) f24c6 f24c9 ρ s Q := n_cond (by kernel_rfl)
theorem f24n3 {ρ : Env} {s : St} {Q : Xit → Env → St → Prop} : wp (XK k) f24c3 ρ s Q = wp (XK k) f24c4 ρ s (seqP (XK k) f24c5 Q) := n_seq (by kernel_rfl)
noncomputable def f24c10 : Code := codeAt f24c0 [1, 1]
noncomputable def f24c11 : Code := codeAt f24c0 [1, 1, 0]
noncomputable def f24c12 : Code := codeAt f24c0 [1, 1, 0, 0]
noncomputable def f24n12 := @n_region (XK k) f24c12 _ _ _ rfl (by kernel_rfl)
noncomputable def f24c13 : Code := codeAt f24c0 [1, 1, 0, 1]
noncomputable def f24c14 : Code := codeAt f24c0 [1, 1, 0, 1, 0]
noncomputable def f24c15 : Code := codeAt f24c0 [1, 1, 0, 1, 0, 0]
noncomputable def f24c16 : Code := codeAt f24c0 [1, 1, 0, 1, 0, 0, 0]
noncomputable def f24c17 : Code := codeAt f24c0 [1, 1, 0, 1, 0, 0, 0, 0]
noncomputable def f24n17 := @n_region (XK k) f24c17 _ _ _ rfl (by kernel_rfl)
noncomputable def f24c18 : Code := codeAt f24c0 [1, 1, 0, 1, 0, 0, 0, 1]
noncomputable def f24c19 : Code := codeAt f24c0 [1, 1, 0, 1, 0, 0, 0, 1, 0]
theorem f24n19 {ρ : Env} {s : St} {Q : Xit → Env → St → Prop} : wp (XK k) f24c19 ρ s Q = Q .normal ρ s := n_skip (by kernel_rfl)
noncomputable def f24c20 : Code := codeAt f24c0 [1, 1, 0, 1, 0, 0, 0, 1, 1]
theorem f24n20 {ρ : Env} {s : St} {Q : Xit → Env → St → Prop} : wp (XK k) f24c20 ρ s Q = Q (.exit 0) ρ s := n_exit (by kernel_rfl)
theorem f24n18 {ρ : Env} {s : St} {Q : Xit → Env → St → Prop} : wp (XK k) f24c18 ρ s Q = condP (XK k) (boolOf (evo ρ (.tmp 14))) f24c19 f24c20 ρ s Q := n_cond (by kernel_rfl)
theorem f24n16 {ρ : Env} {s : St} {Q : Xit → Env → St → Prop} : wp (XK k) f24c16 ρ s Q = wp (XK k) f24c17 ρ s (seqP (XK k) f24c18 Q) := n_seq (by kernel_rfl)
noncomputable def f24c21 : Code := codeAt f24c0 [1, 1, 0, 1, 0, 0, 1]
noncomputable def f24c22 : Code := codeAt f24c0 [1, 1, 0, 1, 0, 0, 1, 0]
noncomputable def f24c23 : Code := codeAt f24c0 [1, 1, 0, 1, 0, 0, 1, 0, 0]
noncomputable def f24c24 : Code := codeAt f24c0 [1, 1, 0, 1, 0, 0, 1, 0, 0, 0]
noncomputable def f24n24 := @n_region (XK k) f24c24 _ _ _ rfl (by kernel_rfl)
noncomputable def f24c25 : Code := codeAt f24c0 [1, 1, 0, 1, 0, 0, 1, 0, 0, 1]
noncomputable def f24c26 : Code := codeAt f24c0 [1, 1, 0, 1, 0, 0, 1, 0, 0, 1, 0]
noncomputable def f24c27 : Code := codeAt f24c0 [1, 1, 0, 1, 0, 0, 1, 0, 0, 1, 0, 0]
noncomputable def f24n27 := @n_region (XK k) f24c27 _ _ _ rfl (by kernel_rfl)
noncomputable def f24c28 : Code := codeAt f24c0 [1, 1, 0, 1, 0, 0, 1, 0, 0, 1, 0, 1]
theorem f24n28 {ρ : Env} {s : St} {Q : Xit → Env → St → Prop} : wp (XK k) f24c28 ρ s Q = Q .ret ρ s := n_ret (by kernel_rfl)
theorem f24n26 {ρ : Env} {s : St} {Q : Xit → Env → St → Prop} : wp (XK k) f24c26 ρ s Q = wp (XK k) f24c27 ρ s (seqP (XK k) f24c28 Q) := n_seq (by kernel_rfl)
noncomputable def f24c29 : Code := codeAt f24c0 [1, 1, 0, 1, 0, 0, 1, 0, 0, 1, 1]
theorem f24n29 {ρ : Env} {s : St} {Q : Xit → Env → St → Prop} : wp (XK k) f24c29 ρ s Q = Q .normal ρ s := n_skip (by kernel_rfl)
theorem f24n25 {ρ : Env} {s : St} {Q : Xit → Env → St → Prop} : wp (XK k) f24c25 ρ s Q = condP (XK k) (boolOf (evo ρ (.tmp 26))) f24c26 f24c29 ρ s Q := n_cond (by kernel_rfl)
theorem f24n23 {ρ : Env} {s : St} {Q : Xit → Env → St → Prop} : wp (XK k) f24c23 ρ s Q = wp (XK k) f24c24 ρ s (seqP (XK k) f24c25 Q) := n_seq (by kernel_rfl)
theorem f24n22 {ρ : Env} {s : St} {Q : Xit → Env → St → Prop} : wp (XK k) f24c22 ρ s Q = wp (XK k) f24c23 ρ s (blockQ 1 Q) := n_block (by kernel_rfl)
noncomputable def f24c30 : Code := codeAt f24c0 [1, 1, 0, 1, 0, 0, 1, 1]
noncomputable def f24n30 := @n_region (XK k) f24c30 _ _ _ rfl (by kernel_rfl)
theorem f24n21 {ρ : Env} {s : St} {Q : Xit → Env → St → Prop} : wp (XK k) f24c21 ρ s Q = wp (XK k) f24c22 ρ s (seqP (XK k) f24c30 Q) := n_seq (by kernel_rfl)
theorem f24n15 {ρ : Env} {s : St} {Q : Xit → Env → St → Prop} : wp (XK k) f24c15 ρ s Q = wp (XK k) f24c16 ρ s (seqP (XK k) f24c21 Q) := n_seq (by kernel_rfl)
theorem f24n14 {ρ : Env} {s : St} {Q : Xit → Env → St → Prop} : wp (XK k) f24c14 ρ s Q = W (XK k) (.loop f24c15) ρ s Q := n_loop (by kernel_rfl)
theorem f24n13 {ρ : Env} {s : St} {Q : Xit → Env → St → Prop} : wp (XK k) f24c13 ρ s Q = wp (XK k) f24c14 ρ s (blockQ 0 Q) := n_block (by kernel_rfl)
theorem f24n11 {ρ : Env} {s : St} {Q : Xit → Env → St → Prop} : wp (XK k) f24c11 ρ s Q = wp (XK k) f24c12 ρ s (seqP (XK k) f24c13 Q) := n_seq (by kernel_rfl)
noncomputable def f24c31 : Code := codeAt f24c0 [1, 1, 1]
noncomputable def f24c32 : Code := codeAt f24c0 [1, 1, 1, 0]
noncomputable def f24n32 := @n_region (XK k) f24c32 _ _ _ rfl (by kernel_rfl)
noncomputable def f24c33 : Code := codeAt f24c0 [1, 1, 1, 1]
theorem f24n33 {ρ : Env} {s : St} {Q : Xit → Env → St → Prop} : wp (XK k) f24c33 ρ s Q = Q .ret ρ s := n_ret (by kernel_rfl)
theorem f24n31 {ρ : Env} {s : St} {Q : Xit → Env → St → Prop} : wp (XK k) f24c31 ρ s Q = wp (XK k) f24c32 ρ s (seqP (XK k) f24c33 Q) := n_seq (by kernel_rfl)
theorem f24n10 {ρ : Env} {s : St} {Q : Xit → Env → St → Prop} : wp (XK k) f24c10 ρ s Q = wp (XK k) f24c11 ρ s (seqP (XK k) f24c31 Q) := n_seq (by kernel_rfl)
theorem f24n2 {ρ : Env} {s : St} {Q : Xit → Env → St → Prop} : wp (XK k) f24c2 ρ s Q = wp (XK k) f24c3 ρ s (seqP (XK k) f24c10 Q) := n_seq (by kernel_rfl)
theorem f24n0 {ρ : Env} {s : St} {Q : Xit → Env → St → Prop} : wp (XK k) f24c0 ρ s Q = wp (XK k) f24c1 ρ s (seqP (XK k) f24c2 Q) := n_seq (by kernel_rfl)
theorem f24_in (hk : Closed k) {x0 : Value} {x1 : Value} {s : St} {Q : Value → St → Prop} (h : wp (XK k) f24c0 (Env.of [x0, x1]) s (rtP (XK k) [.tmp 4] Q)) : WC (XK k) 24 [x0, x1] s Q := WC_in (fn := Try.f24) (c := f24c0) (n := 27) (hk _ _ _) (by kernel_rfl) (by kernel_rfl) (by kernel_rfl) (by kernel_rfl) rfl h
def f24N0 := And.intro (@f24n0 k) (And.intro (@f24n1 k) (And.intro (@f24n2 k) (And.intro (@f24n3 k) (And.intro (@f24n4 k) (And.intro (@f24n5 k) (And.intro (@f24n6 k) (And.intro (@f24n7 k) (And.intro (@f24n8 k) (@f24n9 k)))))))))
def f24N1 := And.intro (@f24n10 k) (And.intro (@f24n11 k) (And.intro (@f24n12 k) (And.intro (@f24n13 k) (And.intro (@f24n14 k) (And.intro (@f24n15 k) (And.intro (@f24n16 k) (And.intro (@f24n17 k) (And.intro (@f24n18 k) (@f24n19 k)))))))))
def f24N2 := And.intro (@f24n20 k) (And.intro (@f24n21 k) (And.intro (@f24n22 k) (And.intro (@f24n23 k) (And.intro (@f24n24 k) (And.intro (@f24n25 k) (And.intro (@f24n26 k) (And.intro (@f24n27 k) (And.intro (@f24n28 k) (@f24n29 k)))))))))
def f24N3 := And.intro (@f24n30 k) (And.intro (@f24n31 k) (And.intro (@f24n32 k) (@f24n33 k)))
noncomputable def f25c0 : Code := bodyOf Try.f25
noncomputable def f25c1 : Code := codeAt f25c0 [0]
noncomputable def f25n1 := @n_region (XK k) f25c1 _ _ _ rfl (by kernel_rfl)
noncomputable def f25c2 : Code := codeAt f25c0 [1]
noncomputable def f25c3 : Code := codeAt f25c0 [1, 0]
noncomputable def f25c4 : Code := codeAt f25c0 [1, 0, 0]
noncomputable def f25n4 := @n_region (XK k) f25c4 _ _ _ rfl (by kernel_rfl)
noncomputable def f25c5 : Code := codeAt f25c0 [1, 0, 1]
noncomputable def f25c6 : Code := codeAt f25c0 [1, 0, 1, 0]
noncomputable def f25c7 : Code := codeAt f25c0 [1, 0, 1, 0, 0]
noncomputable def f25n7 := @n_region (XK k) f25c7 _ _ _ rfl (by kernel_rfl)
noncomputable def f25c8 : Code := codeAt f25c0 [1, 0, 1, 0, 1]
theorem f25n8 {ρ : Env} {s : St} {Q : Xit → Env → St → Prop} : wp (XK k) f25c8 ρ s Q = Q .ret ρ s := n_ret (by kernel_rfl)
theorem f25n6 {ρ : Env} {s : St} {Q : Xit → Env → St → Prop} : wp (XK k) f25c6 ρ s Q = wp (XK k) f25c7 ρ s (seqP (XK k) f25c8 Q) := n_seq (by kernel_rfl)
noncomputable def f25c9 : Code := codeAt f25c0 [1, 0, 1, 1]
theorem f25n9 {ρ : Env} {s : St} {Q : Xit → Env → St → Prop} : wp (XK k) f25c9 ρ s Q = Q .normal ρ s := n_skip (by kernel_rfl)
theorem f25n5 {ρ : Env} {s : St} {Q : Xit → Env → St → Prop} : wp (XK k) f25c5 ρ s Q = condP (XK k) (boolOf (evo ρ (.tmp 7))) f25c6 f25c9 ρ s Q := n_cond (by kernel_rfl)
theorem f25n3 {ρ : Env} {s : St} {Q : Xit → Env → St → Prop} : wp (XK k) f25c3 ρ s Q = wp (XK k) f25c4 ρ s (seqP (XK k) f25c5 Q) := n_seq (by kernel_rfl)
noncomputable def f25c10 : Code := codeAt f25c0 [1, 1]
noncomputable def f25c11 : Code := codeAt f25c0 [1, 1, 0]
noncomputable def f25n11 := @n_region (XK k) f25c11 _ _ _ rfl (by kernel_rfl)
noncomputable def f25c12 : Code := codeAt f25c0 [1, 1, 1]
noncomputable def f25c13 : Code := codeAt f25c0 [1, 1, 1, 0]
noncomputable def f25n13 := @n_region (XK k) f25c13 _ _ _ rfl (by kernel_rfl)
noncomputable def f25c14 : Code := codeAt f25c0 [1, 1, 1, 1]
noncomputable def f25c15 : Code := codeAt f25c0 [1, 1, 1, 1, 0]
noncomputable def f25c16 : Code := codeAt f25c0 [1, 1, 1, 1, 0, 0]
noncomputable def f25n16 := @n_region (XK k) f25c16 _ _ _ rfl (by kernel_rfl)
noncomputable def f25c17 : Code := codeAt f25c0 [1, 1, 1, 1, 0, 1]
noncomputable def f25c18 : Code := codeAt f25c0 [1, 1, 1, 1, 0, 1, 0]
noncomputable def f25c19 : Code := codeAt f25c0 [1, 1, 1, 1, 0, 1, 0, 0]
noncomputable def f25c20 : Code := codeAt f25c0 [1, 1, 1, 1, 0, 1, 0, 0, 0]
noncomputable def f25c21 : Code := codeAt f25c0 [1, 1, 1, 1, 0, 1, 0, 0, 0, 0]
noncomputable def f25n21 := @n_region (XK k) f25c21 _ _ _ rfl (by kernel_rfl)
noncomputable def f25c22 : Code := codeAt f25c0 [1, 1, 1, 1, 0, 1, 0, 0, 0, 1]
noncomputable def f25c23 : Code := codeAt f25c0 [1, 1, 1, 1, 0, 1, 0, 0, 0, 1, 0]
theorem f25n23 {ρ : Env} {s : St} {Q : Xit → Env → St → Prop} : wp (XK k) f25c23 ρ s Q = Q .normal ρ s := n_skip (by kernel_rfl)
noncomputable def f25c24 : Code := codeAt f25c0 [1, 1, 1, 1, 0, 1, 0, 0, 0, 1, 1]
theorem f25n24 {ρ : Env} {s : St} {Q : Xit → Env → St → Prop} : wp (XK k) f25c24 ρ s Q = Q (.exit 0) ρ s := n_exit (by kernel_rfl)
theorem f25n22 {ρ : Env} {s : St} {Q : Xit → Env → St → Prop} : wp (XK k) f25c22 ρ s Q = condP (XK k) (boolOf (evo ρ (.tmp 22))) f25c23 f25c24 ρ s Q := n_cond (by kernel_rfl)
theorem f25n20 {ρ : Env} {s : St} {Q : Xit → Env → St → Prop} : wp (XK k) f25c20 ρ s Q = wp (XK k) f25c21 ρ s (seqP (XK k) f25c22 Q) := n_seq (by kernel_rfl)
noncomputable def f25c25 : Code := codeAt f25c0 [1, 1, 1, 1, 0, 1, 0, 0, 1]
noncomputable def f25c26 : Code := codeAt f25c0 [1, 1, 1, 1, 0, 1, 0, 0, 1, 0]
noncomputable def f25c27 : Code := codeAt f25c0 [1, 1, 1, 1, 0, 1, 0, 0, 1, 0, 0]
noncomputable def f25n27 := @n_region (XK k) f25c27 _ _ _ rfl (by kernel_rfl)
theorem f25n26 {ρ : Env} {s : St} {Q : Xit → Env → St → Prop} : wp (XK k) f25c26 ρ s Q = wp (XK k) f25c27 ρ s (blockQ 1 Q) := n_block (by kernel_rfl)
noncomputable def f25c28 : Code := codeAt f25c0 [1, 1, 1, 1, 0, 1, 0, 0, 1, 1]
noncomputable def f25n28 := @n_region (XK k) f25c28 _ _ _ rfl (by kernel_rfl)
theorem f25n25 {ρ : Env} {s : St} {Q : Xit → Env → St → Prop} : wp (XK k) f25c25 ρ s Q = wp (XK k) f25c26 ρ s (seqP (XK k) f25c28 Q) := n_seq (by kernel_rfl)
theorem f25n19 {ρ : Env} {s : St} {Q : Xit → Env → St → Prop} : wp (XK k) f25c19 ρ s Q = wp (XK k) f25c20 ρ s (seqP (XK k) f25c25 Q) := n_seq (by kernel_rfl)
theorem f25n18 {ρ : Env} {s : St} {Q : Xit → Env → St → Prop} : wp (XK k) f25c18 ρ s Q = W (XK k) (.loop f25c19) ρ s Q := n_loop (by kernel_rfl)
theorem f25n17 {ρ : Env} {s : St} {Q : Xit → Env → St → Prop} : wp (XK k) f25c17 ρ s Q = wp (XK k) f25c18 ρ s (blockQ 0 Q) := n_block (by kernel_rfl)
theorem f25n15 {ρ : Env} {s : St} {Q : Xit → Env → St → Prop} : wp (XK k) f25c15 ρ s Q = wp (XK k) f25c16 ρ s (seqP (XK k) f25c17 Q) := n_seq (by kernel_rfl)
noncomputable def f25c29 : Code := codeAt f25c0 [1, 1, 1, 1, 1]
noncomputable def f25c30 : Code := codeAt f25c0 [1, 1, 1, 1, 1, 0]
noncomputable def f25n30 := @n_region (XK k) f25c30 _ _ _ rfl (by kernel_rfl)
noncomputable def f25c31 : Code := codeAt f25c0 [1, 1, 1, 1, 1, 1]
theorem f25n31 {ρ : Env} {s : St} {Q : Xit → Env → St → Prop} : wp (XK k) f25c31 ρ s Q = Q .ret ρ s := n_ret (by kernel_rfl)
theorem f25n29 {ρ : Env} {s : St} {Q : Xit → Env → St → Prop} : wp (XK k) f25c29 ρ s Q = wp (XK k) f25c30 ρ s (seqP (XK k) f25c31 Q) := n_seq (by kernel_rfl)
theorem f25n14 {ρ : Env} {s : St} {Q : Xit → Env → St → Prop} : wp (XK k) f25c14 ρ s Q = wp (XK k) f25c15 ρ s (seqP (XK k) f25c29 Q) := n_seq (by kernel_rfl)
theorem f25n12 {ρ : Env} {s : St} {Q : Xit → Env → St → Prop} : wp (XK k) f25c12 ρ s Q = wp (XK k) f25c13 ρ s (seqP (XK k) f25c14 Q) := n_seq (by kernel_rfl)
theorem f25n10 {ρ : Env} {s : St} {Q : Xit → Env → St → Prop} : wp (XK k) f25c10 ρ s Q = wp (XK k) f25c11 ρ s (seqP (XK k) f25c12 Q) := n_seq (by kernel_rfl)
theorem f25n2 {ρ : Env} {s : St} {Q : Xit → Env → St → Prop} : wp (XK k) f25c2 ρ s Q = wp (XK k) f25c3 ρ s (seqP (XK k) f25c10 Q) := n_seq (by kernel_rfl)
theorem f25n0 {ρ : Env} {s : St} {Q : Xit → Env → St → Prop} : wp (XK k) f25c0 ρ s Q = wp (XK k) f25c1 ρ s (seqP (XK k) f25c2 Q) := n_seq (by kernel_rfl)
theorem f25_in (hk : Closed k) {x0 : Value} {s : St} {Q : Value → St → Prop} (h : wp (XK k) f25c0 (Env.of [x0]) s (rtP (XK k) [.tmp 2] Q)) : WC (XK k) 25 [x0] s Q := WC_in (fn := Try.f25) (c := f25c0) (n := 32) (hk _ _ _) (by kernel_rfl) (by kernel_rfl) (by kernel_rfl) (by kernel_rfl) rfl h
def f25N0 := And.intro (@f25n0 k) (And.intro (@f25n1 k) (And.intro (@f25n2 k) (And.intro (@f25n3 k) (And.intro (@f25n4 k) (And.intro (@f25n5 k) (And.intro (@f25n6 k) (And.intro (@f25n7 k) (And.intro (@f25n8 k) (@f25n9 k)))))))))
def f25N1 := And.intro (@f25n10 k) (And.intro (@f25n11 k) (And.intro (@f25n12 k) (And.intro (@f25n13 k) (And.intro (@f25n14 k) (And.intro (@f25n15 k) (And.intro (@f25n16 k) (And.intro (@f25n17 k) (And.intro (@f25n18 k) (@f25n19 k)))))))))
def f25N2 := And.intro (@f25n20 k) (And.intro (@f25n21 k) (And.intro (@f25n22 k) (And.intro (@f25n23 k) (And.intro (@f25n24 k) (And.intro (@f25n25 k) (And.intro (@f25n26 k) (And.intro (@f25n27 k) (And.intro (@f25n28 k) (@f25n29 k)))))))))
def f25N3 := And.intro (@f25n30 k) (@f25n31 k)
noncomputable def f56c0 : Code := bodyOf Try.f56
noncomputable def f56c1 : Code := codeAt f56c0 [0]
noncomputable def f56n1 := @n_region (XK k) f56c1 _ _ _ rfl (by kernel_rfl)
noncomputable def f56c2 : Code := codeAt f56c0 [1]
noncomputable def f56c3 : Code := codeAt f56c0 [1, 0]
noncomputable def f56c4 : Code := codeAt f56c0 [1, 0, 0]
noncomputable def f56n4 := @n_region (XK k) f56c4 _ _ _ rfl (by kernel_rfl)
noncomputable def f56c5 : Code := codeAt f56c0 [1, 0, 1]
noncomputable def f56c6 : Code := codeAt f56c0 [1, 0, 1, 0]
noncomputable def f56c7 : Code := codeAt f56c0 [1, 0, 1, 0, 0]
noncomputable def f56c8 : Code := codeAt f56c0 [1, 0, 1, 0, 0, 0]
noncomputable def f56n8 := @n_region (XK k) f56c8 _ _ _ rfl (by kernel_rfl)
noncomputable def f56c9 : Code := codeAt f56c0 [1, 0, 1, 0, 0, 1]
noncomputable def f56c10 : Code := codeAt f56c0 [1, 0, 1, 0, 0, 1, 0]
noncomputable def f56c11 : Code := codeAt f56c0 [1, 0, 1, 0, 0, 1, 0, 0]
theorem f56n11 {ρ : Env} {s : St} {Q : Xit → Env → St → Prop} : wp (XK k) f56c11 ρ s Q = Q .normal ρ s := n_skip (by kernel_rfl)
noncomputable def f56c12 : Code := codeAt f56c0 [1, 0, 1, 0, 0, 1, 0, 1]
theorem f56n12 {ρ : Env} {s : St} {Q : Xit → Env → St → Prop} : wp (XK k) f56c12 ρ s Q = Q (.exit 0) ρ s := n_exit (by kernel_rfl)
theorem f56n10 {ρ : Env} {s : St} {Q : Xit → Env → St → Prop} : wp (XK k) f56c10 ρ s Q = condP (XK k) (boolOf (evo ρ (.tmp 8))) f56c11 f56c12 ρ s Q := n_cond (by kernel_rfl)
noncomputable def f56c13 : Code := codeAt f56c0 [1, 0, 1, 0, 0, 1, 1]
noncomputable def f56c14 : Code := codeAt f56c0 [1, 0, 1, 0, 0, 1, 1, 0]
noncomputable def f56c15 : Code := codeAt f56c0 [1, 0, 1, 0, 0, 1, 1, 0, 0]
noncomputable def f56c16 : Code := codeAt f56c0 [1, 0, 1, 0, 0, 1, 1, 0, 0, 0]
noncomputable def f56n16 := @n_region (XK k) f56c16 _ _ _ rfl (by kernel_rfl)
noncomputable def f56c17 : Code := codeAt f56c0 [1, 0, 1, 0, 0, 1, 1, 0, 0, 1]
noncomputable def f56c18 : Code := codeAt f56c0 [1, 0, 1, 0, 0, 1, 1, 0, 0, 1, 0]
noncomputable def f56n18 := @n_region (XK k) f56c18 _ _ _ rfl (by kernel_rfl)
noncomputable def f56c19 : Code := codeAt f56c0 [1, 0, 1, 0, 0, 1, 1, 0, 0, 1, 1]
noncomputable def f56c20 : Code := codeAt f56c0 [1, 0, 1, 0, 0, 1, 1, 0, 0, 1, 1, 0]
noncomputable def f56c21 : Code := codeAt f56c0 [1, 0, 1, 0, 0, 1, 1, 0, 0, 1, 1, 0, 0]
noncomputable def f56n21 := @n_region (XK k) f56c21 _ _ _ rfl (by kernel_rfl)
noncomputable def f56c22 : Code := codeAt f56c0 [1, 0, 1, 0, 0, 1, 1, 0, 0, 1, 1, 0, 1]
theorem f56n22 {ρ : Env} {s : St} {Q : Xit → Env → St → Prop} : wp (XK k) f56c22 ρ s Q = Q .ret ρ s := n_ret (by kernel_rfl)
theorem f56n20 {ρ : Env} {s : St} {Q : Xit → Env → St → Prop} : wp (XK k) f56c20 ρ s Q = wp (XK k) f56c21 ρ s (seqP (XK k) f56c22 Q) := n_seq (by kernel_rfl)
noncomputable def f56c23 : Code := codeAt f56c0 [1, 0, 1, 0, 0, 1, 1, 0, 0, 1, 1, 1]
theorem f56n23 {ρ : Env} {s : St} {Q : Xit → Env → St → Prop} : wp (XK k) f56c23 ρ s Q = Q .normal ρ s := n_skip (by kernel_rfl)
theorem f56n19 {ρ : Env} {s : St} {Q : Xit → Env → St → Prop} : wp (XK k) f56c19 ρ s Q = condP (XK k) (boolOf (evo ρ (.tmp 13))) f56c20 f56c23 ρ s Q := n_cond (by kernel_rfl)
theorem f56n17 {ρ : Env} {s : St} {Q : Xit → Env → St → Prop} : wp (XK k) f56c17 ρ s Q = wp (XK k) f56c18 ρ s (seqP (XK k) f56c19 Q) := n_seq (by kernel_rfl)
theorem f56n15 {ρ : Env} {s : St} {Q : Xit → Env → St → Prop} : wp (XK k) f56c15 ρ s Q = wp (XK k) f56c16 ρ s (seqP (XK k) f56c17 Q) := n_seq (by kernel_rfl)
theorem f56n14 {ρ : Env} {s : St} {Q : Xit → Env → St → Prop} : wp (XK k) f56c14 ρ s Q = wp (XK k) f56c15 ρ s (blockQ 1 Q) := n_block (by kernel_rfl)
noncomputable def f56c24 : Code := codeAt f56c0 [1, 0, 1, 0, 0, 1, 1, 1]
noncomputable def f56n24 := @n_region (XK k) f56c24 _ _ _ rfl (by kernel_rfl)
theorem f56n13 {ρ : Env} {s : St} {Q : Xit → Env → St → Prop} : wp (XK k) f56c13 ρ s Q = wp (XK k) f56c14 ρ s (seqP (XK k) f56c24 Q) := n_seq (by kernel_rfl)
theorem f56n9 {ρ : Env} {s : St} {Q : Xit → Env → St → Prop} : wp (XK k) f56c9 ρ s Q = wp (XK k) f56c10 ρ s (seqP (XK k) f56c13 Q) := n_seq (by kernel_rfl)
theorem f56n7 {ρ : Env} {s : St} {Q : Xit → Env → St → Prop} : wp (XK k) f56c7 ρ s Q = wp (XK k) f56c8 ρ s (seqP (XK k) f56c9 Q) := n_seq (by kernel_rfl)
theorem f56n6 {ρ : Env} {s : St} {Q : Xit → Env → St → Prop} : wp (XK k) f56c6 ρ s Q = W (XK k) (.loop f56c7) ρ s Q := n_loop (by kernel_rfl)
theorem f56n5 {ρ : Env} {s : St} {Q : Xit → Env → St → Prop} : wp (XK k) f56c5 ρ s Q = wp (XK k) f56c6 ρ s (blockQ 0 Q) := n_block (by kernel_rfl)
theorem f56n3 {ρ : Env} {s : St} {Q : Xit → Env → St → Prop} : wp (XK k) f56c3 ρ s Q = wp (XK k) f56c4 ρ s (seqP (XK k) f56c5 Q) := n_seq (by kernel_rfl)
noncomputable def f56c25 : Code := codeAt f56c0 [1, 1]
noncomputable def f56c26 : Code := codeAt f56c0 [1, 1, 0]
noncomputable def f56n26 := @n_region (XK k) f56c26 _ _ _ rfl (by kernel_rfl)
noncomputable def f56c27 : Code := codeAt f56c0 [1, 1, 1]
theorem f56n27 {ρ : Env} {s : St} {Q : Xit → Env → St → Prop} : wp (XK k) f56c27 ρ s Q = Q .ret ρ s := n_ret (by kernel_rfl)
theorem f56n25 {ρ : Env} {s : St} {Q : Xit → Env → St → Prop} : wp (XK k) f56c25 ρ s Q = wp (XK k) f56c26 ρ s (seqP (XK k) f56c27 Q) := n_seq (by kernel_rfl)
theorem f56n2 {ρ : Env} {s : St} {Q : Xit → Env → St → Prop} : wp (XK k) f56c2 ρ s Q = wp (XK k) f56c3 ρ s (seqP (XK k) f56c25 Q) := n_seq (by kernel_rfl)
theorem f56n0 {ρ : Env} {s : St} {Q : Xit → Env → St → Prop} : wp (XK k) f56c0 ρ s Q = wp (XK k) f56c1 ρ s (seqP (XK k) f56c2 Q) := n_seq (by kernel_rfl)
theorem f56_in (hk : Closed k) {x0 : Value} {s : St} {Q : Value → St → Prop} (h : wp (XK k) f56c0 (Env.of [x0]) s (rtP (XK k) [.tmp 2] Q)) : WC (XK k) 56 [x0] s Q := WC_in (fn := Try.f56) (c := f56c0) (n := 15) (hk _ _ _) (by kernel_rfl) (by kernel_rfl) (by kernel_rfl) (by kernel_rfl) rfl h
def f56N0 := And.intro (@f56n0 k) (And.intro (@f56n1 k) (And.intro (@f56n2 k) (And.intro (@f56n3 k) (And.intro (@f56n4 k) (And.intro (@f56n5 k) (And.intro (@f56n6 k) (And.intro (@f56n7 k) (And.intro (@f56n8 k) (@f56n9 k)))))))))
def f56N1 := And.intro (@f56n10 k) (And.intro (@f56n11 k) (And.intro (@f56n12 k) (And.intro (@f56n13 k) (And.intro (@f56n14 k) (And.intro (@f56n15 k) (And.intro (@f56n16 k) (And.intro (@f56n17 k) (And.intro (@f56n18 k) (@f56n19 k)))))))))
def f56N2 := And.intro (@f56n20 k) (And.intro (@f56n21 k) (And.intro (@f56n22 k) (And.intro (@f56n23 k) (And.intro (@f56n24 k) (And.intro (@f56n25 k) (And.intro (@f56n26 k) (@f56n27 k)))))))
noncomputable def f60c0 : Code := bodyOf Try.f60
noncomputable def f60c1 : Code := codeAt f60c0 [0]
noncomputable def f60n1 := @n_region (XK k) f60c1 _ _ _ rfl (by kernel_rfl)
noncomputable def f60c2 : Code := codeAt f60c0 [1]
noncomputable def f60c3 : Code := codeAt f60c0 [1, 0]
noncomputable def f60n3 := @n_region (XK k) f60c3 _ _ _ rfl (by kernel_rfl)
noncomputable def f60c4 : Code := codeAt f60c0 [1, 1]
theorem f60n4 {ρ : Env} {s : St} {Q : Xit → Env → St → Prop} : wp (XK k) f60c4 ρ s Q = Q .ret ρ s := n_ret (by kernel_rfl)
theorem f60n2 {ρ : Env} {s : St} {Q : Xit → Env → St → Prop} : wp (XK k) f60c2 ρ s Q = wp (XK k) f60c3 ρ s (seqP (XK k) f60c4 Q) := n_seq (by kernel_rfl)
theorem f60n0 {ρ : Env} {s : St} {Q : Xit → Env → St → Prop} : wp (XK k) f60c0 ρ s Q = wp (XK k) f60c1 ρ s (seqP (XK k) f60c2 Q) := n_seq (by kernel_rfl)
theorem f60_in (hk : Closed k) {x0 : Value} {s : St} {Q : Value → St → Prop} (h : wp (XK k) f60c0 (Env.of [x0]) s (rtP (XK k) [.tmp 2] Q)) : WC (XK k) 60 [x0] s Q := WC_in (fn := Try.f60) (c := f60c0) (n := 16) (hk _ _ _) (by kernel_rfl) (by kernel_rfl) (by kernel_rfl) (by kernel_rfl) rfl h
def f60N0 := And.intro (@f60n0 k) (And.intro (@f60n1 k) (And.intro (@f60n2 k) (And.intro (@f60n3 k) (@f60n4 k))))
noncomputable def f61c0 : Code := bodyOf Try.f61
noncomputable def f61c1 : Code := codeAt f61c0 [0]
noncomputable def f61n1 := @n_region (XK k) f61c1 _ _ _ rfl (by kernel_rfl)
noncomputable def f61c2 : Code := codeAt f61c0 [1]
noncomputable def f61c3 : Code := codeAt f61c0 [1, 0]
noncomputable def f61n3 := @n_region (XK k) f61c3 _ _ _ rfl (by kernel_rfl)
noncomputable def f61c4 : Code := codeAt f61c0 [1, 1]
noncomputable def f61c5 : Code := codeAt f61c0 [1, 1, 0]
noncomputable def f61c6 : Code := codeAt f61c0 [1, 1, 0, 0]
noncomputable def f61n6 := @n_region (XK k) f61c6 _ _ _ rfl (by kernel_rfl)
noncomputable def f61c7 : Code := codeAt f61c0 [1, 1, 0, 1]
noncomputable def f61c8 : Code := codeAt f61c0 [1, 1, 0, 1, 0]
noncomputable def f61c9 : Code := codeAt f61c0 [1, 1, 0, 1, 0, 0]
noncomputable def f61c10 : Code := codeAt f61c0 [1, 1, 0, 1, 0, 0, 0]
noncomputable def f61n10 := @n_region (XK k) f61c10 _ _ _ rfl (by kernel_rfl)
noncomputable def f61c11 : Code := codeAt f61c0 [1, 1, 0, 1, 0, 0, 1]
noncomputable def f61c12 : Code := codeAt f61c0 [1, 1, 0, 1, 0, 0, 1, 0]
noncomputable def f61c13 : Code := codeAt f61c0 [1, 1, 0, 1, 0, 0, 1, 0, 0]
theorem f61n13 {ρ : Env} {s : St} {Q : Xit → Env → St → Prop} : wp (XK k) f61c13 ρ s Q = Q .normal ρ s := n_skip (by kernel_rfl)
noncomputable def f61c14 : Code := codeAt f61c0 [1, 1, 0, 1, 0, 0, 1, 0, 1]
theorem f61n14 {ρ : Env} {s : St} {Q : Xit → Env → St → Prop} : wp (XK k) f61c14 ρ s Q = Q (.exit 0) ρ s := n_exit (by kernel_rfl)
theorem f61n12 {ρ : Env} {s : St} {Q : Xit → Env → St → Prop} : wp (XK k) f61c12 ρ s Q = condP (XK k) (boolOf (evo ρ (.tmp 12))) f61c13 f61c14 ρ s Q := n_cond (by kernel_rfl)
noncomputable def f61c15 : Code := codeAt f61c0 [1, 1, 0, 1, 0, 0, 1, 1]
noncomputable def f61c16 : Code := codeAt f61c0 [1, 1, 0, 1, 0, 0, 1, 1, 0]
noncomputable def f61c17 : Code := codeAt f61c0 [1, 1, 0, 1, 0, 0, 1, 1, 0, 0]
noncomputable def f61c18 : Code := codeAt f61c0 [1, 1, 0, 1, 0, 0, 1, 1, 0, 0, 0]
noncomputable def f61n18 := @n_region (XK k) f61c18 _ _ _ rfl (by kernel_rfl)
noncomputable def f61c19 : Code := codeAt f61c0 [1, 1, 0, 1, 0, 0, 1, 1, 0, 0, 1]
noncomputable def f61c20 : Code := codeAt f61c0 [1, 1, 0, 1, 0, 0, 1, 1, 0, 0, 1, 0]
noncomputable def f61n20 := @n_region (XK k) f61c20 _ _ _ rfl (by kernel_rfl)
noncomputable def f61c21 : Code := codeAt f61c0 [1, 1, 0, 1, 0, 0, 1, 1, 0, 0, 1, 1]
noncomputable def f61c22 : Code := codeAt f61c0 [1, 1, 0, 1, 0, 0, 1, 1, 0, 0, 1, 1, 0]
noncomputable def f61n22 := @n_region (XK k) f61c22 _ _ _ rfl (by kernel_rfl)
noncomputable def f61c23 : Code := codeAt f61c0 [1, 1, 0, 1, 0, 0, 1, 1, 0, 0, 1, 1, 1]
noncomputable def f61c24 : Code := codeAt f61c0 [1, 1, 0, 1, 0, 0, 1, 1, 0, 0, 1, 1, 1, 0]
noncomputable def f61n24 := @n_region (XK k) f61c24 _ _ _ rfl (by kernel_rfl)
noncomputable def f61c25 : Code := codeAt f61c0 [1, 1, 0, 1, 0, 0, 1, 1, 0, 0, 1, 1, 1, 1]
theorem f61n25 {ρ : Env} {s : St} {Q : Xit → Env → St → Prop} : wp (XK k) f61c25 ρ s Q = Q .normal ρ s := n_skip (by kernel_rfl)
theorem f61n23 {ρ : Env} {s : St} {Q : Xit → Env → St → Prop} : wp (XK k) f61c23 ρ s Q = condP (XK k) (boolOf (evo ρ (.tmp 20))) f61c24 f61c25 ρ s Q := n_cond (by kernel_rfl)
theorem f61n21 {ρ : Env} {s : St} {Q : Xit → Env → St → Prop} : wp (XK k) f61c21 ρ s Q = wp (XK k) f61c22 ρ s (seqP (XK k) f61c23 Q) := n_seq (by kernel_rfl)
theorem f61n19 {ρ : Env} {s : St} {Q : Xit → Env → St → Prop} : wp (XK k) f61c19 ρ s Q = wp (XK k) f61c20 ρ s (seqP (XK k) f61c21 Q) := n_seq (by kernel_rfl)
theorem f61n17 {ρ : Env} {s : St} {Q : Xit → Env → St → Prop} : wp (XK k) f61c17 ρ s Q = wp (XK k) f61c18 ρ s (seqP (XK k) f61c19 Q) := n_seq (by kernel_rfl)
theorem f61n16 {ρ : Env} {s : St} {Q : Xit → Env → St → Prop} : wp (XK k) f61c16 ρ s Q = wp (XK k) f61c17 ρ s (blockQ 1 Q) := n_block (by kernel_rfl)
noncomputable def f61c26 : Code := codeAt f61c0 [1, 1, 0, 1, 0, 0, 1, 1, 1]
noncomputable def f61n26 := @n_region (XK k) f61c26 _ _ _ rfl (by kernel_rfl)
theorem f61n15 {ρ : Env} {s : St} {Q : Xit → Env → St → Prop} : wp (XK k) f61c15 ρ s Q = wp (XK k) f61c16 ρ s (seqP (XK k) f61c26 Q) := n_seq (by kernel_rfl)
theorem f61n11 {ρ : Env} {s : St} {Q : Xit → Env → St → Prop} : wp (XK k) f61c11 ρ s Q = wp (XK k) f61c12 ρ s (seqP (XK k) f61c15 Q) := n_seq (by kernel_rfl)
theorem f61n9 {ρ : Env} {s : St} {Q : Xit → Env → St → Prop} : wp (XK k) f61c9 ρ s Q = wp (XK k) f61c10 ρ s (seqP (XK k) f61c11 Q) := n_seq (by kernel_rfl)
theorem f61n8 {ρ : Env} {s : St} {Q : Xit → Env → St → Prop} : wp (XK k) f61c8 ρ s Q = W (XK k) (.loop f61c9) ρ s Q := n_loop (by kernel_rfl)
theorem f61n7 {ρ : Env} {s : St} {Q : Xit → Env → St → Prop} : wp (XK k) f61c7 ρ s Q = wp (XK k) f61c8 ρ s (blockQ 0 Q) := n_block (by kernel_rfl)
theorem f61n5 {ρ : Env} {s : St} {Q : Xit → Env → St → Prop} : wp (XK k) f61c5 ρ s Q = wp (XK k) f61c6 ρ s (seqP (XK k) f61c7 Q) := n_seq (by kernel_rfl)
noncomputable def f61c27 : Code := codeAt f61c0 [1, 1, 1]
noncomputable def f61c28 : Code := codeAt f61c0 [1, 1, 1, 0]
noncomputable def f61n28 := @n_region (XK k) f61c28 _ _ _ rfl (by kernel_rfl)
noncomputable def f61c29 : Code := codeAt f61c0 [1, 1, 1, 1]
noncomputable def f61c30 : Code := codeAt f61c0 [1, 1, 1, 1, 0]
noncomputable def f61c31 : Code := codeAt f61c0 [1, 1, 1, 1, 0, 0]
noncomputable def f61n31 := @n_region (XK k) f61c31 _ _ _ rfl (by kernel_rfl)
noncomputable def f61c32 : Code := codeAt f61c0 [1, 1, 1, 1, 0, 1]
noncomputable def f61c33 : Code := codeAt f61c0 [1, 1, 1, 1, 0, 1, 0]
noncomputable def f61c34 : Code := codeAt f61c0 [1, 1, 1, 1, 0, 1, 0, 0]
noncomputable def f61c35 : Code := codeAt f61c0 [1, 1, 1, 1, 0, 1, 0, 0, 0]
noncomputable def f61n35 := @n_region (XK k) f61c35 _ _ _ rfl (by kernel_rfl)
noncomputable def f61c36 : Code := codeAt f61c0 [1, 1, 1, 1, 0, 1, 0, 0, 1]
noncomputable def f61c37 : Code := codeAt f61c0 [1, 1, 1, 1, 0, 1, 0, 0, 1, 0]
noncomputable def f61c38 : Code := codeAt f61c0 [1, 1, 1, 1, 0, 1, 0, 0, 1, 0, 0]
theorem f61n38 {ρ : Env} {s : St} {Q : Xit → Env → St → Prop} : wp (XK k) f61c38 ρ s Q = Q .normal ρ s := n_skip (by kernel_rfl)
noncomputable def f61c39 : Code := codeAt f61c0 [1, 1, 1, 1, 0, 1, 0, 0, 1, 0, 1]
theorem f61n39 {ρ : Env} {s : St} {Q : Xit → Env → St → Prop} : wp (XK k) f61c39 ρ s Q = Q (.exit 2) ρ s := n_exit (by kernel_rfl)
theorem f61n37 {ρ : Env} {s : St} {Q : Xit → Env → St → Prop} : wp (XK k) f61c37 ρ s Q = condP (XK k) (boolOf (evo ρ (.tmp 28))) f61c38 f61c39 ρ s Q := n_cond (by kernel_rfl)
noncomputable def f61c40 : Code := codeAt f61c0 [1, 1, 1, 1, 0, 1, 0, 0, 1, 1]
noncomputable def f61c41 : Code := codeAt f61c0 [1, 1, 1, 1, 0, 1, 0, 0, 1, 1, 0]
noncomputable def f61c42 : Code := codeAt f61c0 [1, 1, 1, 1, 0, 1, 0, 0, 1, 1, 0, 0]
noncomputable def f61c43 : Code := codeAt f61c0 [1, 1, 1, 1, 0, 1, 0, 0, 1, 1, 0, 0, 0]
noncomputable def f61n43 := @n_region (XK k) f61c43 _ _ _ rfl (by kernel_rfl)
noncomputable def f61c44 : Code := codeAt f61c0 [1, 1, 1, 1, 0, 1, 0, 0, 1, 1, 0, 0, 1]
noncomputable def f61n44 := @n_region (XK k) f61c44 _ _ _ rfl (by kernel_rfl)
theorem f61n42 {ρ : Env} {s : St} {Q : Xit → Env → St → Prop} : wp (XK k) f61c42 ρ s Q = wp (XK k) f61c43 ρ s (seqP (XK k) f61c44 Q) := n_seq (by kernel_rfl)
theorem f61n41 {ρ : Env} {s : St} {Q : Xit → Env → St → Prop} : wp (XK k) f61c41 ρ s Q = wp (XK k) f61c42 ρ s (blockQ 3 Q) := n_block (by kernel_rfl)
noncomputable def f61c45 : Code := codeAt f61c0 [1, 1, 1, 1, 0, 1, 0, 0, 1, 1, 1]
noncomputable def f61n45 := @n_region (XK k) f61c45 _ _ _ rfl (by kernel_rfl)
theorem f61n40 {ρ : Env} {s : St} {Q : Xit → Env → St → Prop} : wp (XK k) f61c40 ρ s Q = wp (XK k) f61c41 ρ s (seqP (XK k) f61c45 Q) := n_seq (by kernel_rfl)
theorem f61n36 {ρ : Env} {s : St} {Q : Xit → Env → St → Prop} : wp (XK k) f61c36 ρ s Q = wp (XK k) f61c37 ρ s (seqP (XK k) f61c40 Q) := n_seq (by kernel_rfl)
theorem f61n34 {ρ : Env} {s : St} {Q : Xit → Env → St → Prop} : wp (XK k) f61c34 ρ s Q = wp (XK k) f61c35 ρ s (seqP (XK k) f61c36 Q) := n_seq (by kernel_rfl)
theorem f61n33 {ρ : Env} {s : St} {Q : Xit → Env → St → Prop} : wp (XK k) f61c33 ρ s Q = W (XK k) (.loop f61c34) ρ s Q := n_loop (by kernel_rfl)
theorem f61n32 {ρ : Env} {s : St} {Q : Xit → Env → St → Prop} : wp (XK k) f61c32 ρ s Q = wp (XK k) f61c33 ρ s (blockQ 2 Q) := n_block (by kernel_rfl)
theorem f61n30 {ρ : Env} {s : St} {Q : Xit → Env → St → Prop} : wp (XK k) f61c30 ρ s Q = wp (XK k) f61c31 ρ s (seqP (XK k) f61c32 Q) := n_seq (by kernel_rfl)
noncomputable def f61c46 : Code := codeAt f61c0 [1, 1, 1, 1, 1]
noncomputable def f61c47 : Code := codeAt f61c0 [1, 1, 1, 1, 1, 0]
noncomputable def f61n47 := @n_region (XK k) f61c47 _ _ _ rfl (by kernel_rfl)
noncomputable def f61c48 : Code := codeAt f61c0 [1, 1, 1, 1, 1, 1]
theorem f61n48 {ρ : Env} {s : St} {Q : Xit → Env → St → Prop} : wp (XK k) f61c48 ρ s Q = Q .ret ρ s := n_ret (by kernel_rfl)
theorem f61n46 {ρ : Env} {s : St} {Q : Xit → Env → St → Prop} : wp (XK k) f61c46 ρ s Q = wp (XK k) f61c47 ρ s (seqP (XK k) f61c48 Q) := n_seq (by kernel_rfl)
theorem f61n29 {ρ : Env} {s : St} {Q : Xit → Env → St → Prop} : wp (XK k) f61c29 ρ s Q = wp (XK k) f61c30 ρ s (seqP (XK k) f61c46 Q) := n_seq (by kernel_rfl)
theorem f61n27 {ρ : Env} {s : St} {Q : Xit → Env → St → Prop} : wp (XK k) f61c27 ρ s Q = wp (XK k) f61c28 ρ s (seqP (XK k) f61c29 Q) := n_seq (by kernel_rfl)
theorem f61n4 {ρ : Env} {s : St} {Q : Xit → Env → St → Prop} : wp (XK k) f61c4 ρ s Q = wp (XK k) f61c5 ρ s (seqP (XK k) f61c27 Q) := n_seq (by kernel_rfl)
theorem f61n2 {ρ : Env} {s : St} {Q : Xit → Env → St → Prop} : wp (XK k) f61c2 ρ s Q = wp (XK k) f61c3 ρ s (seqP (XK k) f61c4 Q) := n_seq (by kernel_rfl)
theorem f61n0 {ρ : Env} {s : St} {Q : Xit → Env → St → Prop} : wp (XK k) f61c0 ρ s Q = wp (XK k) f61c1 ρ s (seqP (XK k) f61c2 Q) := n_seq (by kernel_rfl)
theorem f61_in (hk : Closed k) {x0 : Value} {s : St} {Q : Value → St → Prop} (h : wp (XK k) f61c0 (Env.of [x0]) s (rtP (XK k) [.tmp 2] Q)) : WC (XK k) 61 [x0] s Q := WC_in (fn := Try.f61) (c := f61c0) (n := 36) (hk _ _ _) (by kernel_rfl) (by kernel_rfl) (by kernel_rfl) (by kernel_rfl) rfl h
def f61N0 := And.intro (@f61n0 k) (And.intro (@f61n1 k) (And.intro (@f61n2 k) (And.intro (@f61n3 k) (And.intro (@f61n4 k) (And.intro (@f61n5 k) (And.intro (@f61n6 k) (And.intro (@f61n7 k) (And.intro (@f61n8 k) (@f61n9 k)))))))))
def f61N1 := And.intro (@f61n10 k) (And.intro (@f61n11 k) (And.intro (@f61n12 k) (And.intro (@f61n13 k) (And.intro (@f61n14 k) (And.intro (@f61n15 k) (And.intro (@f61n16 k) (And.intro (@f61n17 k) (And.intro (@f61n18 k) (@f61n19 k)))))))))
def f61N2 := And.intro (@f61n20 k) (And.intro (@f61n21 k) (And.intro (@f61n22 k) (And.intro (@f61n23 k) (And.intro (@f61n24 k) (And.intro (@f61n25 k) (And.intro (@f61n26 k) (And.intro (@f61n27 k) (And.intro (@f61n28 k) (@f61n29 k)))))))))
def f61N3 := And.intro (@f61n30 k) (And.intro (@f61n31 k) (And.intro (@f61n32 k) (And.intro (@f61n33 k) (And.intro (@f61n34 k) (And.intro (@f61n35 k) (And.intro (@f61n36 k) (And.intro (@f61n37 k) (And.intro (@f61n38 k) (@f61n39 k)))))))))
def f61N4 := And.intro (@f61n40 k) (And.intro (@f61n41 k) (And.intro (@f61n42 k) (And.intro (@f61n43 k) (And.intro (@f61n44 k) (And.intro (@f61n45 k) (And.intro (@f61n46 k) (And.intro (@f61n47 k) (@f61n48 k))))))))
noncomputable def f62c0 : Code := bodyOf Try.f62
noncomputable def f62c1 : Code := codeAt f62c0 [0]
noncomputable def f62n1 := @n_region (XK k) f62c1 _ _ _ rfl (by kernel_rfl)
noncomputable def f62c2 : Code := codeAt f62c0 [1]
noncomputable def f62c3 : Code := codeAt f62c0 [1, 0]
noncomputable def f62n3 := @n_region (XK k) f62c3 _ _ _ rfl (by kernel_rfl)
noncomputable def f62c4 : Code := codeAt f62c0 [1, 1]
theorem f62n4 {ρ : Env} {s : St} {Q : Xit → Env → St → Prop} : wp (XK k) f62c4 ρ s Q = Q .ret ρ s := n_ret (by kernel_rfl)
theorem f62n2 {ρ : Env} {s : St} {Q : Xit → Env → St → Prop} : wp (XK k) f62c2 ρ s Q = wp (XK k) f62c3 ρ s (seqP (XK k) f62c4 Q) := n_seq (by kernel_rfl)
theorem f62n0 {ρ : Env} {s : St} {Q : Xit → Env → St → Prop} : wp (XK k) f62c0 ρ s Q = wp (XK k) f62c1 ρ s (seqP (XK k) f62c2 Q) := n_seq (by kernel_rfl)
theorem f62_in (hk : Closed k) {x0 : Value} {s : St} {Q : Value → St → Prop} (h : wp (XK k) f62c0 (Env.of [x0]) s (rtP (XK k) [.tmp 2] Q)) : WC (XK k) 62 [x0] s Q := WC_in (fn := Try.f62) (c := f62c0) (n := 16) (hk _ _ _) (by kernel_rfl) (by kernel_rfl) (by kernel_rfl) (by kernel_rfl) rfl h
def f62N0 := And.intro (@f62n0 k) (And.intro (@f62n1 k) (And.intro (@f62n2 k) (And.intro (@f62n3 k) (@f62n4 k))))
noncomputable def f63c0 : Code := bodyOf Try.f63
noncomputable def f63c1 : Code := codeAt f63c0 [0]
noncomputable def f63n1 := @n_region (XK k) f63c1 _ _ _ rfl (by kernel_rfl)
noncomputable def f63c2 : Code := codeAt f63c0 [1]
noncomputable def f63c3 : Code := codeAt f63c0 [1, 0]
noncomputable def f63n3 := @n_region (XK k) f63c3 _ _ _ rfl (by kernel_rfl)
noncomputable def f63c4 : Code := codeAt f63c0 [1, 1]
theorem f63n4 {ρ : Env} {s : St} {Q : Xit → Env → St → Prop} : wp (XK k) f63c4 ρ s Q = Q .ret ρ s := n_ret (by kernel_rfl)
theorem f63n2 {ρ : Env} {s : St} {Q : Xit → Env → St → Prop} : wp (XK k) f63c2 ρ s Q = wp (XK k) f63c3 ρ s (seqP (XK k) f63c4 Q) := n_seq (by kernel_rfl)
theorem f63n0 {ρ : Env} {s : St} {Q : Xit → Env → St → Prop} : wp (XK k) f63c0 ρ s Q = wp (XK k) f63c1 ρ s (seqP (XK k) f63c2 Q) := n_seq (by kernel_rfl)
theorem f63_in (hk : Closed k) {x0 : Value} {x1 : Value} {s : St} {Q : Value → St → Prop} (h : wp (XK k) f63c0 (Env.of [x0, x1]) s (rtP (XK k) [.tmp 4] Q)) : WC (XK k) 63 [x0, x1] s Q := WC_in (fn := Try.f63) (c := f63c0) (n := 10) (hk _ _ _) (by kernel_rfl) (by kernel_rfl) (by kernel_rfl) (by kernel_rfl) rfl h
def f63N0 := And.intro (@f63n0 k) (And.intro (@f63n1 k) (And.intro (@f63n2 k) (And.intro (@f63n3 k) (@f63n4 k))))
noncomputable def f64c0 : Code := bodyOf Try.f64
noncomputable def f64c1 : Code := codeAt f64c0 [0]
noncomputable def f64n1 := @n_region (XK k) f64c1 _ _ _ rfl (by kernel_rfl)
noncomputable def f64c2 : Code := codeAt f64c0 [1]
noncomputable def f64c3 : Code := codeAt f64c0 [1, 0]
noncomputable def f64n3 := @n_region (XK k) f64c3 _ _ _ rfl (by kernel_rfl)
noncomputable def f64c4 : Code := codeAt f64c0 [1, 1]
theorem f64n4 {ρ : Env} {s : St} {Q : Xit → Env → St → Prop} : wp (XK k) f64c4 ρ s Q = Q .ret ρ s := n_ret (by kernel_rfl)
theorem f64n2 {ρ : Env} {s : St} {Q : Xit → Env → St → Prop} : wp (XK k) f64c2 ρ s Q = wp (XK k) f64c3 ρ s (seqP (XK k) f64c4 Q) := n_seq (by kernel_rfl)
theorem f64n0 {ρ : Env} {s : St} {Q : Xit → Env → St → Prop} : wp (XK k) f64c0 ρ s Q = wp (XK k) f64c1 ρ s (seqP (XK k) f64c2 Q) := n_seq (by kernel_rfl)
theorem f64_in (hk : Closed k) {x0 : Value} {s : St} {Q : Value → St → Prop} (h : wp (XK k) f64c0 (Env.of [x0]) s (rtP (XK k) [.tmp 2] Q)) : WC (XK k) 64 [x0] s Q := WC_in (fn := Try.f64) (c := f64c0) (n := 4) (hk _ _ _) (by kernel_rfl) (by kernel_rfl) (by kernel_rfl) (by kernel_rfl) rfl h
def f64N0 := And.intro (@f64n0 k) (And.intro (@f64n1 k) (And.intro (@f64n2 k) (And.intro (@f64n3 k) (@f64n4 k))))
noncomputable def f76c0 : Code := bodyOf Try.f76
noncomputable def f76c1 : Code := codeAt f76c0 [0]
noncomputable def f76n1 := @n_region (XK k) f76c1 _ _ _ rfl (by kernel_rfl)
noncomputable def f76c2 : Code := codeAt f76c0 [1]
noncomputable def f76c3 : Code := codeAt f76c0 [1, 0]
noncomputable def f76c4 : Code := codeAt f76c0 [1, 0, 0]
noncomputable def f76n4 := @n_region (XK k) f76c4 _ _ _ rfl (by kernel_rfl)
noncomputable def f76c5 : Code := codeAt f76c0 [1, 0, 1]
noncomputable def f76c6 : Code := codeAt f76c0 [1, 0, 1, 0]
noncomputable def f76c7 : Code := codeAt f76c0 [1, 0, 1, 0, 0]
noncomputable def f76n7 := @n_region (XK k) f76c7 _ _ _ rfl (by kernel_rfl)
noncomputable def f76c8 : Code := codeAt f76c0 [1, 0, 1, 0, 1]
theorem f76n8 {ρ : Env} {s : St} {Q : Xit → Env → St → Prop} : wp (XK k) f76c8 ρ s Q = Q .ret ρ s := n_ret (by kernel_rfl)
theorem f76n6 {ρ : Env} {s : St} {Q : Xit → Env → St → Prop} : wp (XK k) f76c6 ρ s Q = wp (XK k) f76c7 ρ s (seqP (XK k) f76c8 Q) := n_seq (by kernel_rfl)
noncomputable def f76c9 : Code := codeAt f76c0 [1, 0, 1, 1]
theorem f76n9 {ρ : Env} {s : St} {Q : Xit → Env → St → Prop} : wp (XK k) f76c9 ρ s Q = Q .normal ρ s := n_skip (by kernel_rfl)
theorem f76n5 {ρ : Env} {s : St} {Q : Xit → Env → St → Prop} : wp (XK k) f76c5 ρ s Q = condP (XK k) (boolOf (evo ρ (.tmp 4))) f76c6 f76c9 ρ s Q := n_cond (by kernel_rfl)
theorem f76n3 {ρ : Env} {s : St} {Q : Xit → Env → St → Prop} : wp (XK k) f76c3 ρ s Q = wp (XK k) f76c4 ρ s (seqP (XK k) f76c5 Q) := n_seq (by kernel_rfl)
noncomputable def f76c10 : Code := codeAt f76c0 [1, 1]
noncomputable def f76c11 : Code := codeAt f76c0 [1, 1, 0]
noncomputable def f76n11 := @n_region (XK k) f76c11 _ _ _ rfl (by kernel_rfl)
noncomputable def f76c12 : Code := codeAt f76c0 [1, 1, 1]
theorem f76n12 {ρ : Env} {s : St} {Q : Xit → Env → St → Prop} : wp (XK k) f76c12 ρ s Q = Q .ret ρ s := n_ret (by kernel_rfl)
theorem f76n10 {ρ : Env} {s : St} {Q : Xit → Env → St → Prop} : wp (XK k) f76c10 ρ s Q = wp (XK k) f76c11 ρ s (seqP (XK k) f76c12 Q) := n_seq (by kernel_rfl)
theorem f76n2 {ρ : Env} {s : St} {Q : Xit → Env → St → Prop} : wp (XK k) f76c2 ρ s Q = wp (XK k) f76c3 ρ s (seqP (XK k) f76c10 Q) := n_seq (by kernel_rfl)
theorem f76n0 {ρ : Env} {s : St} {Q : Xit → Env → St → Prop} : wp (XK k) f76c0 ρ s Q = wp (XK k) f76c1 ρ s (seqP (XK k) f76c2 Q) := n_seq (by kernel_rfl)
theorem f76_in (hk : Closed k) {x0 : Value} {s : St} {Q : Value → St → Prop} (h : wp (XK k) f76c0 (Env.of [x0]) s (rtP (XK k) [.tmp 2] Q)) : WC (XK k) 76 [x0] s Q := WC_in (fn := Try.f76) (c := f76c0) (n := 8) (hk _ _ _) (by kernel_rfl) (by kernel_rfl) (by kernel_rfl) (by kernel_rfl) rfl h
def f76N0 := And.intro (@f76n0 k) (And.intro (@f76n1 k) (And.intro (@f76n2 k) (And.intro (@f76n3 k) (And.intro (@f76n4 k) (And.intro (@f76n5 k) (And.intro (@f76n6 k) (And.intro (@f76n7 k) (And.intro (@f76n8 k) (@f76n9 k)))))))))
def f76N1 := And.intro (@f76n10 k) (And.intro (@f76n11 k) (@f76n12 k))
noncomputable def f93c0 : Code := bodyOf Try.f93
noncomputable def f93c1 : Code := codeAt f93c0 [0]
noncomputable def f93n1 := @n_region (XK k) f93c1 _ _ _ rfl (by kernel_rfl)
noncomputable def f93c2 : Code := codeAt f93c0 [1]
noncomputable def f93c3 : Code := codeAt f93c0 [1, 0]
noncomputable def f93c4 : Code := codeAt f93c0 [1, 0, 0]
noncomputable def f93n4 := @n_region (XK k) f93c4 _ _ _ rfl (by kernel_rfl)
noncomputable def f93c5 : Code := codeAt f93c0 [1, 0, 1]
noncomputable def f93c6 : Code := codeAt f93c0 [1, 0, 1, 0]
noncomputable def f93c7 : Code := codeAt f93c0 [1, 0, 1, 0, 0]
noncomputable def f93n7 := @n_region (XK k) f93c7 _ _ _ rfl (by kernel_rfl)
noncomputable def f93c8 : Code := codeAt f93c0 [1, 0, 1, 0, 1]
theorem f93n8 {ρ : Env} {s : St} {Q : Xit → Env → St → Prop} : wp (XK k) f93c8 ρ s Q = Q .ret ρ s := n_ret (by kernel_rfl)
theorem f93n6 {ρ : Env} {s : St} {Q : Xit → Env → St → Prop} : wp (XK k) f93c6 ρ s Q = wp (XK k) f93c7 ρ s (seqP (XK k) f93c8 Q) := n_seq (by kernel_rfl)
noncomputable def f93c9 : Code := codeAt f93c0 [1, 0, 1, 1]
theorem f93n9 {ρ : Env} {s : St} {Q : Xit → Env → St → Prop} : wp (XK k) f93c9 ρ s Q = Q .normal ρ s := n_skip (by kernel_rfl)
theorem f93n5 {ρ : Env} {s : St} {Q : Xit → Env → St → Prop} : wp (XK k) f93c5 ρ s Q = condP (XK k) (boolOf (evo ρ (.tmp 8))) f93c6 f93c9 ρ s Q := n_cond (by kernel_rfl)
theorem f93n3 {ρ : Env} {s : St} {Q : Xit → Env → St → Prop} : wp (XK k) f93c3 ρ s Q = wp (XK k) f93c4 ρ s (seqP (XK k) f93c5 Q) := n_seq (by kernel_rfl)
noncomputable def f93c10 : Code := codeAt f93c0 [1, 1]
noncomputable def f93c11 : Code := codeAt f93c0 [1, 1, 0]
noncomputable def f93n11 := @n_region (XK k) f93c11 _ _ _ rfl (by kernel_rfl)
noncomputable def f93c12 : Code := codeAt f93c0 [1, 1, 1]
theorem f93n12 {ρ : Env} {s : St} {Q : Xit → Env → St → Prop} : wp (XK k) f93c12 ρ s Q = Q .ret ρ s := n_ret (by kernel_rfl)
theorem f93n10 {ρ : Env} {s : St} {Q : Xit → Env → St → Prop} : wp (XK k) f93c10 ρ s Q = wp (XK k) f93c11 ρ s (seqP (XK k) f93c12 Q) := n_seq (by kernel_rfl)
theorem f93n2 {ρ : Env} {s : St} {Q : Xit → Env → St → Prop} : wp (XK k) f93c2 ρ s Q = wp (XK k) f93c3 ρ s (seqP (XK k) f93c10 Q) := n_seq (by kernel_rfl)
theorem f93n0 {ρ : Env} {s : St} {Q : Xit → Env → St → Prop} : wp (XK k) f93c0 ρ s Q = wp (XK k) f93c1 ρ s (seqP (XK k) f93c2 Q) := n_seq (by kernel_rfl)
theorem f93_in (hk : Closed k) {x0 : Value} {s : St} {Q : Value → St → Prop} (h : wp (XK k) f93c0 (Env.of [x0]) s (rtP (XK k) [.tmp 2] Q)) : WC (XK k) 93 [x0] s Q := WC_in (fn := Try.f93) (c := f93c0) (n := 21) (hk _ _ _) (by kernel_rfl) (by kernel_rfl) (by kernel_rfl) (by kernel_rfl) rfl h
def f93N0 := And.intro (@f93n0 k) (And.intro (@f93n1 k) (And.intro (@f93n2 k) (And.intro (@f93n3 k) (And.intro (@f93n4 k) (And.intro (@f93n5 k) (And.intro (@f93n6 k) (And.intro (@f93n7 k) (And.intro (@f93n8 k) (@f93n9 k)))))))))
def f93N1 := And.intro (@f93n10 k) (And.intro (@f93n11 k) (@f93n12 k))
noncomputable def f94c0 : Code := bodyOf Try.f94
noncomputable def f94c1 : Code := codeAt f94c0 [0]
noncomputable def f94n1 := @n_region (XK k) f94c1 _ _ _ rfl (by kernel_rfl)
noncomputable def f94c2 : Code := codeAt f94c0 [1]
noncomputable def f94c3 : Code := codeAt f94c0 [1, 0]
noncomputable def f94c4 : Code := codeAt f94c0 [1, 0, 0]
noncomputable def f94n4 := @n_region (XK k) f94c4 _ _ _ rfl (by kernel_rfl)
noncomputable def f94c5 : Code := codeAt f94c0 [1, 0, 1]
noncomputable def f94c6 : Code := codeAt f94c0 [1, 0, 1, 0]
noncomputable def f94n6 := @n_region (XK k) f94c6 _ _ _ rfl (by kernel_rfl)
noncomputable def f94c7 : Code := codeAt f94c0 [1, 0, 1, 1]
theorem f94n7 {ρ : Env} {s : St} {Q : Xit → Env → St → Prop} : wp (XK k) f94c7 ρ s Q = Q .normal ρ s := n_skip (by kernel_rfl)
theorem f94n5 {ρ : Env} {s : St} {Q : Xit → Env → St → Prop} : wp (XK k) f94c5 ρ s Q = condP (XK k) (boolOf (evo ρ (.tmp 6))) f94c6 f94c7 ρ s Q := n_cond (by kernel_rfl)
theorem f94n3 {ρ : Env} {s : St} {Q : Xit → Env → St → Prop} : wp (XK k) f94c3 ρ s Q = wp (XK k) f94c4 ρ s (seqP (XK k) f94c5 Q) := n_seq (by kernel_rfl)
noncomputable def f94c8 : Code := codeAt f94c0 [1, 1]
noncomputable def f94c9 : Code := codeAt f94c0 [1, 1, 0]
noncomputable def f94c10 : Code := codeAt f94c0 [1, 1, 0, 0]
noncomputable def f94n10 := @n_region (XK k) f94c10 _ _ _ rfl (by kernel_rfl)
noncomputable def f94c11 : Code := codeAt f94c0 [1, 1, 0, 1]
noncomputable def f94c12 : Code := codeAt f94c0 [1, 1, 0, 1, 0]
noncomputable def f94n12 := @n_region (XK k) f94c12 _ _ _ rfl (by kernel_rfl)
noncomputable def f94c13 : Code := codeAt f94c0 [1, 1, 0, 1, 1]
noncomputable def f94c14 : Code := codeAt f94c0 [1, 1, 0, 1, 1, 0]
noncomputable def f94n14 := @n_region (XK k) f94c14 _ _ _ rfl (by kernel_rfl)
noncomputable def f94c15 : Code := codeAt f94c0 [1, 1, 0, 1, 1, 1]
theorem f94n15 {ρ : Env} {s : St} {Q : Xit → Env → St → Prop} : wp (XK k) f94c15 ρ s Q = Q .normal ρ s := n_skip (by kernel_rfl)
theorem f94n13 {ρ : Env} {s : St} {Q : Xit → Env → St → Prop} : wp (XK k) f94c13 ρ s Q = condP (XK k) (boolOf (evo ρ (.tmp 16))) f94c14 f94c15 ρ s Q := n_cond (by kernel_rfl)
theorem f94n11 {ρ : Env} {s : St} {Q : Xit → Env → St → Prop} : wp (XK k) f94c11 ρ s Q = wp (XK k) f94c12 ρ s (seqP (XK k) f94c13 Q) := n_seq (by kernel_rfl)
theorem f94n9 {ρ : Env} {s : St} {Q : Xit → Env → St → Prop} : wp (XK k) f94c9 ρ s Q = wp (XK k) f94c10 ρ s (seqP (XK k) f94c11 Q) := n_seq (by kernel_rfl)
noncomputable def f94c16 : Code := codeAt f94c0 [1, 1, 1]
noncomputable def f94c17 : Code := codeAt f94c0 [1, 1, 1, 0]
noncomputable def f94n17 := @n_region (XK k) f94c17 _ _ _ rfl (by kernel_rfl)
noncomputable def f94c18 : Code := codeAt f94c0 [1, 1, 1, 1]
theorem f94n18 {ρ : Env} {s : St} {Q : Xit → Env → St → Prop} : wp (XK k) f94c18 ρ s Q = Q .ret ρ s := n_ret (by kernel_rfl)
theorem f94n16 {ρ : Env} {s : St} {Q : Xit → Env → St → Prop} : wp (XK k) f94c16 ρ s Q = wp (XK k) f94c17 ρ s (seqP (XK k) f94c18 Q) := n_seq (by kernel_rfl)
theorem f94n8 {ρ : Env} {s : St} {Q : Xit → Env → St → Prop} : wp (XK k) f94c8 ρ s Q = wp (XK k) f94c9 ρ s (seqP (XK k) f94c16 Q) := n_seq (by kernel_rfl)
theorem f94n2 {ρ : Env} {s : St} {Q : Xit → Env → St → Prop} : wp (XK k) f94c2 ρ s Q = wp (XK k) f94c3 ρ s (seqP (XK k) f94c8 Q) := n_seq (by kernel_rfl)
theorem f94n0 {ρ : Env} {s : St} {Q : Xit → Env → St → Prop} : wp (XK k) f94c0 ρ s Q = wp (XK k) f94c1 ρ s (seqP (XK k) f94c2 Q) := n_seq (by kernel_rfl)
theorem f94_in (hk : Closed k) {x0 : Value} {x1 : Value} {s : St} {Q : Value → St → Prop} (h : wp (XK k) f94c0 (Env.of [x0, x1]) s (rtP (XK k) [.tmp 4] Q)) : WC (XK k) 94 [x0, x1] s Q := WC_in (fn := Try.f94) (c := f94c0) (n := 27) (hk _ _ _) (by kernel_rfl) (by kernel_rfl) (by kernel_rfl) (by kernel_rfl) rfl h
def f94N0 := And.intro (@f94n0 k) (And.intro (@f94n1 k) (And.intro (@f94n2 k) (And.intro (@f94n3 k) (And.intro (@f94n4 k) (And.intro (@f94n5 k) (And.intro (@f94n6 k) (And.intro (@f94n7 k) (And.intro (@f94n8 k) (@f94n9 k)))))))))
def f94N1 := And.intro (@f94n10 k) (And.intro (@f94n11 k) (And.intro (@f94n12 k) (And.intro (@f94n13 k) (And.intro (@f94n14 k) (And.intro (@f94n15 k) (And.intro (@f94n16 k) (And.intro (@f94n17 k) (@f94n18 k))))))))
noncomputable def f95c0 : Code := bodyOf Try.f95
noncomputable def f95c1 : Code := codeAt f95c0 [0]
noncomputable def f95n1 := @n_region (XK k) f95c1 _ _ _ rfl (by kernel_rfl)
noncomputable def f95c2 : Code := codeAt f95c0 [1]
noncomputable def f95c3 : Code := codeAt f95c0 [1, 0]
noncomputable def f95c4 : Code := codeAt f95c0 [1, 0, 0]
noncomputable def f95n4 := @n_region (XK k) f95c4 _ _ _ rfl (by kernel_rfl)
noncomputable def f95c5 : Code := codeAt f95c0 [1, 0, 1]
noncomputable def f95c6 : Code := codeAt f95c0 [1, 0, 1, 0]
noncomputable def f95c7 : Code := codeAt f95c0 [1, 0, 1, 0, 0]
noncomputable def f95n7 := @n_region (XK k) f95c7 _ _ _ rfl (by kernel_rfl)
noncomputable def f95c8 : Code := codeAt f95c0 [1, 0, 1, 0, 1]
theorem f95n8 {ρ : Env} {s : St} {Q : Xit → Env → St → Prop} : wp (XK k) f95c8 ρ s Q = Q .ret ρ s := n_ret (by kernel_rfl)
theorem f95n6 {ρ : Env} {s : St} {Q : Xit → Env → St → Prop} : wp (XK k) f95c6 ρ s Q = wp (XK k) f95c7 ρ s (seqP (XK k) f95c8 Q) := n_seq (by kernel_rfl)
noncomputable def f95c9 : Code := codeAt f95c0 [1, 0, 1, 1]
theorem f95n9 {ρ : Env} {s : St} {Q : Xit → Env → St → Prop} : wp (XK k) f95c9 ρ s Q = Q .normal ρ s := n_skip (by kernel_rfl)
theorem f95n5 {ρ : Env} {s : St} {Q : Xit → Env → St → Prop} : wp (XK k) f95c5 ρ s Q = condP (XK k) (boolOf (evo ρ (.tmp 16))) f95c6 f95c9 ρ s Q := n_cond (by kernel_rfl)
theorem f95n3 {ρ : Env} {s : St} {Q : Xit → Env → St → Prop} : wp (XK k) f95c3 ρ s Q = wp (XK k) f95c4 ρ s (seqP (XK k) f95c5 Q) := n_seq (by kernel_rfl)
noncomputable def f95c10 : Code := codeAt f95c0 [1, 1]
noncomputable def f95c11 : Code := codeAt f95c0 [1, 1, 0]
noncomputable def f95n11 := @n_region (XK k) f95c11 _ _ _ rfl (by kernel_rfl)
noncomputable def f95c12 : Code := codeAt f95c0 [1, 1, 1]
theorem f95n12 {ρ : Env} {s : St} {Q : Xit → Env → St → Prop} : wp (XK k) f95c12 ρ s Q = Q .ret ρ s := n_ret (by kernel_rfl)
theorem f95n10 {ρ : Env} {s : St} {Q : Xit → Env → St → Prop} : wp (XK k) f95c10 ρ s Q = wp (XK k) f95c11 ρ s (seqP (XK k) f95c12 Q) := n_seq (by kernel_rfl)
theorem f95n2 {ρ : Env} {s : St} {Q : Xit → Env → St → Prop} : wp (XK k) f95c2 ρ s Q = wp (XK k) f95c3 ρ s (seqP (XK k) f95c10 Q) := n_seq (by kernel_rfl)
theorem f95n0 {ρ : Env} {s : St} {Q : Xit → Env → St → Prop} : wp (XK k) f95c0 ρ s Q = wp (XK k) f95c1 ρ s (seqP (XK k) f95c2 Q) := n_seq (by kernel_rfl)
theorem f95_in (hk : Closed k) {x0 : Value} {s : St} {Q : Value → St → Prop} (h : wp (XK k) f95c0 (Env.of [x0]) s (rtP (XK k) [.tmp 2] Q)) : WC (XK k) 95 [x0] s Q := WC_in (fn := Try.f95) (c := f95c0) (n := 23) (hk _ _ _) (by kernel_rfl) (by kernel_rfl) (by kernel_rfl) (by kernel_rfl) rfl h
def f95N0 := And.intro (@f95n0 k) (And.intro (@f95n1 k) (And.intro (@f95n2 k) (And.intro (@f95n3 k) (And.intro (@f95n4 k) (And.intro (@f95n5 k) (And.intro (@f95n6 k) (And.intro (@f95n7 k) (And.intro (@f95n8 k) (@f95n9 k)))))))))
def f95N1 := And.intro (@f95n10 k) (And.intro (@f95n11 k) (@f95n12 k))
noncomputable def f96c0 : Code := bodyOf Try.f96
noncomputable def f96c1 : Code := codeAt f96c0 [0]
noncomputable def f96n1 := @n_region (XK k) f96c1 _ _ _ rfl (by kernel_rfl)
noncomputable def f96c2 : Code := codeAt f96c0 [1]
noncomputable def f96c3 : Code := codeAt f96c0 [1, 0]
noncomputable def f96n3 := @n_region (XK k) f96c3 _ _ _ rfl (by kernel_rfl)
noncomputable def f96c4 : Code := codeAt f96c0 [1, 1]
theorem f96n4 {ρ : Env} {s : St} {Q : Xit → Env → St → Prop} : wp (XK k) f96c4 ρ s Q = Q .ret ρ s := n_ret (by kernel_rfl)
theorem f96n2 {ρ : Env} {s : St} {Q : Xit → Env → St → Prop} : wp (XK k) f96c2 ρ s Q = wp (XK k) f96c3 ρ s (seqP (XK k) f96c4 Q) := n_seq (by kernel_rfl)
theorem f96n0 {ρ : Env} {s : St} {Q : Xit → Env → St → Prop} : wp (XK k) f96c0 ρ s Q = wp (XK k) f96c1 ρ s (seqP (XK k) f96c2 Q) := n_seq (by kernel_rfl)
theorem f96_in (hk : Closed k) {x0 : Value} {x1 : Value} {s : St} {Q : Value → St → Prop} (h : wp (XK k) f96c0 (Env.of [x0, x1]) s (rtP (XK k) [.tmp 3] Q)) : WC (XK k) 96 [x0, x1] s Q := WC_in (fn := Try.f96) (c := f96c0) (n := 11) (hk _ _ _) (by kernel_rfl) (by kernel_rfl) (by kernel_rfl) (by kernel_rfl) rfl h
def f96N0 := And.intro (@f96n0 k) (And.intro (@f96n1 k) (And.intro (@f96n2 k) (And.intro (@f96n3 k) (@f96n4 k))))
end
end Go.Proofs.Ytndedkpcfjnecaa.Ab
