/- The evaluator's tables of this seat. Written by mktab.py. -/
import Derived.Test.YtpckldhojfjdmaaC4
import Derived.Test.YtpckldhojfjdmaaProg
namespace Go.Proofs.Ytpckldhojfjdmaa.Ab
open Go.Proofs
def t1 : Ty := ⟨ .func #[] #[] false, 1, 8, .nilFunc⟩
def t2 : Ty := ⟨ .int .i64, 1, 8, .int .i64 0⟩
def t3 : Ty := ⟨ .int .i64, 1, 8, .int .i64 0⟩
def t4 : Ty := ⟨ .bool, 1, 1, .bool false⟩
def t5 : Ty := ⟨ .int .u8, 1, 1, .int .u8 0⟩
def t6 : Ty := ⟨ .int .u8, 1, 1, .int .u8 0⟩
def t7 : Ty := ⟨ .struct #[⟨ "x", 2, 0, false, "", "runtime", 0⟩, ⟨ "y", 3, 1, false, "", "runtime", 8⟩, ⟨ "signed", 4, 2, false, "", "runtime", 16⟩, ⟨ "code", 6, 3, false, "", "runtime", 17⟩], 4, 24, .agg #[(.int .i64 0), (.int .i64 0), (.bool false), (.int .u8 0)]⟩
def t8 : Ty := ⟨ .struct #[⟨ "x", 2, 0, false, "", "runtime", 0⟩, ⟨ "y", 3, 1, false, "", "runtime", 8⟩, ⟨ "signed", 4, 2, false, "", "runtime", 16⟩, ⟨ "code", 6, 3, false, "", "runtime", 17⟩], 4, 24, .agg #[(.int .i64 0), (.int .i64 0), (.bool false), (.int .u8 0)]⟩
def t9 : Ty := ⟨ .string, 1, 16, .string ⟨#[]⟩⟩
def t10 : Ty := ⟨ .string, 1, 16, .string ⟨#[]⟩⟩
def t11 : Ty := ⟨ .string, 1, 16, .string ⟨#[]⟩⟩
def t12 : Ty := ⟨ .int .u64, 1, 8, .int .u64 0⟩
def t13 : Ty := ⟨ .struct #[⟨ "msg", 9, 0, false, "", "runtime", 0⟩, ⟨ "addr", 12, 1, false, "", "runtime", 16⟩], 2, 24, .agg #[(.string ⟨#[]⟩), (.int .u64 0)]⟩
def t14 : Ty := ⟨ .struct #[⟨ "msg", 9, 0, false, "", "runtime", 0⟩, ⟨ "addr", 12, 1, false, "", "runtime", 16⟩], 2, 24, .agg #[(.string ⟨#[]⟩), (.int .u64 0)]⟩
def t15 : Ty := ⟨ .pointer 69, 1, 8, .pointer none⟩
def t16 : Ty := ⟨ .pointer 72, 1, 8, .pointer none⟩
def t17 : Ty := ⟨ .pointer 79, 1, 8, .pointer none⟩
def t18 : Ty := ⟨ .struct #[⟨ "typ", 17, 0, false, "", "internal/runtime/maps", 0⟩], 1, 8, .agg #[(.pointer none)]⟩
def t19 : Ty := ⟨ .struct #[⟨ "typ", 17, 0, false, "", "internal/runtime/maps", 0⟩], 1, 8, .agg #[(.pointer none)]⟩
def t21 : Ty := ⟨ .int .i32, 1, 4, .int .i32 0⟩
def t22 : Ty := ⟨ .func #[] #[4] false, 1, 8, .nilFunc⟩
def t23 : Ty := ⟨ .func #[3] #[9] false, 1, 8, .nilFunc⟩
def t24 : Ty := ⟨ .int .i64, 1, 8, .int .i64 0⟩
def t26 : Ty := ⟨ .func #[9] #[3, 24] false, 1, 8, .nilFunc⟩
def t27 : Ty := ⟨ .func #[3, 9] #[4] false, 1, 8, .nilFunc⟩
def t28 : Ty := ⟨ .func #[3, 3] #[9] false, 1, 8, .nilFunc⟩
def t29 : Ty := ⟨ .func #[3, 3] #[3] false, 1, 8, .nilFunc⟩
def t30 : Ty := ⟨ .func #[9] #[3] false, 1, 8, .nilFunc⟩
def t31 : Ty := ⟨ .func #[3, 3, 9] #[4] false, 1, 8, .nilFunc⟩
def t32 : Ty := ⟨ .func #[34] #[9] false, 1, 8, .nilFunc⟩
def t33 : Ty := ⟨ .func #[34] #[32] false, 1, 8, .nilFunc⟩
def t34 : Ty := ⟨ .int .u64, 1, 8, .int .u64 0⟩
def t36 : Ty := ⟨ .func #[9, 9] #[9, 4] false, 1, 8, .nilFunc⟩
def t38 : Ty := ⟨ .func #[9] #[34, 4] false, 1, 8, .nilFunc⟩
def t39 : Ty := ⟨ .func #[34, 34] #[38] false, 1, 8, .nilFunc⟩
def t40 : Ty := ⟨ .func #[9, 3] #[9] false, 1, 8, .nilFunc⟩
def t41 : Ty := ⟨ .func #[5] #[3] false, 1, 8, .nilFunc⟩
def t42 : Ty := ⟨ .array 64 5, 64, 64, .agg #[(.int .u8 0), (.int .u8 0), (.int .u8 0), (.int .u8 0), (.int .u8 0), (.int .u8 0), (.int .u8 0), (.int .u8 0), (.int .u8 0), (.int .u8 0), (.int .u8 0), (.int .u8 0), (.int .u8 0), (.int .u8 0), (.int .u8 0), (.int .u8 0), (.int .u8 0), (.int .u8 0), (.int .u8 0), (.int .u8 0), (.int .u8 0), (.int .u8 0), (.int .u8 0), (.int .u8 0), (.int .u8 0), (.int .u8 0), (.int .u8 0), (.int .u8 0), (.int .u8 0), (.int .u8 0), (.int .u8 0), (.int .u8 0), (.int .u8 0), (.int .u8 0), (.int .u8 0), (.int .u8 0), (.int .u8 0), (.int .u8 0), (.int .u8 0), (.int .u8 0), (.int .u8 0), (.int .u8 0), (.int .u8 0), (.int .u8 0), (.int .u8 0), (.int .u8 0), (.int .u8 0), (.int .u8 0), (.int .u8 0), (.int .u8 0), (.int .u8 0), (.int .u8 0), (.int .u8 0), (.int .u8 0), (.int .u8 0), (.int .u8 0), (.int .u8 0), (.int .u8 0), (.int .u8 0), (.int .u8 0), (.int .u8 0), (.int .u8 0), (.int .u8 0), (.int .u8 0)]⟩
def t43 : Ty := ⟨ .slice 5, 1, 24, .slice none 0 0⟩
def t44 : Ty := ⟨ .func #[9, 5] #[3] false, 1, 8, .nilFunc⟩
def t45 : Ty := ⟨ .int .u64, 1, 8, .int .u64 0⟩
def t47 : Ty := ⟨ .func #[45, 45] #[45, 45] false, 1, 8, .nilFunc⟩
def t48 : Ty := ⟨ .func #[9, 9] #[4] false, 1, 8, .nilFunc⟩
def t49 : Ty := ⟨ .pointer 51, 1, 8, .pointer none⟩
def t50 : Ty := ⟨ .struct #[⟨ "addr", 49, 0, false, "", "strings", 0⟩, ⟨ "buf", 43, 1, false, "", "strings", 8⟩], 2, 32, .agg #[(.pointer none), (.slice none 0 0)]⟩
def t51 : Ty := ⟨ .struct #[⟨ "addr", 49, 0, false, "", "strings", 0⟩, ⟨ "buf", 43, 1, false, "", "strings", 8⟩], 2, 32, .agg #[(.pointer none), (.slice none 0 0)]⟩
def t52 : Ty := ⟨ .func #[3] #[] false, 1, 8, .nilFunc⟩
def t56 : Ty := ⟨ .func #[9] #[3, 54] false, 1, 8, .nilFunc⟩
def t57 : Ty := ⟨ .func #[] #[3] false, 1, 8, .nilFunc⟩
def t58 : Ty := ⟨ .func #[] #[9] false, 1, 8, .nilFunc⟩
def t59 : Ty := ⟨ .int .u32, 1, 4, .int .u32 0⟩
def t61 : Ty := ⟨ .func #[59, 59] #[59, 59] false, 1, 8, .nilFunc⟩
def t63 : Ty := ⟨ .func #[34, 34] #[34, 34] false, 1, 8, .nilFunc⟩
def t64 : Ty := ⟨ .pointer 5, 1, 8, .pointer none⟩
def t65 : Ty := ⟨ .unsafePointer, 1, 8, .pointer none⟩
def t66 : Ty := ⟨ .func #[65] #[65] false, 1, 8, .nilFunc⟩
def t67 : Ty := ⟨ .func #[3] #[43] false, 1, 8, .nilFunc⟩
def t68 : Ty := ⟨ .struct #[⟨ "_interface", 17, 0, false, "", "runtime", 0⟩, ⟨ "concrete", 17, 1, false, "", "runtime", 8⟩, ⟨ "asserted", 17, 2, false, "", "runtime", 16⟩, ⟨ "missingMethod", 9, 3, false, "", "runtime", 24⟩], 4, 40, .agg #[(.pointer none), (.pointer none), (.pointer none), (.string ⟨#[]⟩)]⟩
def t69 : Ty := ⟨ .struct #[⟨ "_interface", 17, 0, false, "", "runtime", 0⟩, ⟨ "concrete", 17, 1, false, "", "runtime", 8⟩, ⟨ "asserted", 17, 2, false, "", "runtime", 16⟩, ⟨ "missingMethod", 9, 3, false, "", "runtime", 24⟩], 4, 40, .agg #[(.pointer none), (.pointer none), (.pointer none), (.string ⟨#[]⟩)]⟩
def t70 : Ty := ⟨ .array 0 16, 0, 0, .agg #[]⟩
def t71 : Ty := ⟨ .struct #[⟨ "_", 70, 0, false, "", "runtime", 0⟩], 0, 0, .agg #[]⟩
def t72 : Ty := ⟨ .struct #[⟨ "_", 70, 0, false, "", "runtime", 0⟩], 0, 0, .agg #[]⟩
def t73 : Ty := ⟨ .int .u8, 1, 1, .int .u8 0⟩
def t74 : Ty := ⟨ .int .u8, 1, 1, .int .u8 0⟩
def t75 : Ty := ⟨ .func #[65, 65] #[4] false, 1, 8, .nilFunc⟩
def t76 : Ty := ⟨ .int .i32, 1, 4, .int .i32 0⟩
def t77 : Ty := ⟨ .int .i32, 1, 4, .int .i32 0⟩
def t78 : Ty := ⟨ .struct #[⟨ "Size_", 12, 0, false, "", "", 0⟩, ⟨ "PtrBytes", 12, 1, false, "", "", 8⟩, ⟨ "Hash", 59, 2, false, "", "", 16⟩, ⟨ "TFlag", 73, 3, false, "", "", 20⟩, ⟨ "Align_", 5, 4, false, "", "", 21⟩, ⟨ "FieldAlign_", 5, 5, false, "", "", 22⟩, ⟨ "Kind_", 74, 6, false, "", "", 23⟩, ⟨ "Equal", 75, 7, false, "", "", 24⟩, ⟨ "GCData", 64, 8, false, "", "", 32⟩, ⟨ "Str", 76, 9, false, "", "", 40⟩, ⟨ "PtrToThis", 77, 10, false, "", "", 44⟩], 11, 48, .agg #[(.int .u64 0), (.int .u64 0), (.int .u32 0), (.int .u8 0), (.int .u8 0), (.int .u8 0), (.int .u8 0), .nilFunc, (.pointer none), (.int .i32 0), (.int .i32 0)]⟩
def t79 : Ty := ⟨ .struct #[⟨ "Size_", 12, 0, false, "", "", 0⟩, ⟨ "PtrBytes", 12, 1, false, "", "", 8⟩, ⟨ "Hash", 59, 2, false, "", "", 16⟩, ⟨ "TFlag", 73, 3, false, "", "", 20⟩, ⟨ "Align_", 5, 4, false, "", "", 21⟩, ⟨ "FieldAlign_", 5, 5, false, "", "", 22⟩, ⟨ "Kind_", 74, 6, false, "", "", 23⟩, ⟨ "Equal", 75, 7, false, "", "", 24⟩, ⟨ "GCData", 64, 8, false, "", "", 32⟩, ⟨ "Str", 76, 9, false, "", "", 40⟩, ⟨ "PtrToThis", 77, 10, false, "", "", 44⟩], 11, 48, .agg #[(.int .u64 0), (.int .u64 0), (.int .u32 0), (.int .u8 0), (.int .u8 0), (.int .u8 0), (.int .u8 0), .nilFunc, (.pointer none), (.int .i32 0), (.int .i32 0)]⟩
def tys : Tr Ty := (.node none (.node (some (t1)) (.node (some (t3)) (.node (some (t7)) (.node (some (t15)) (.node (some (t31)) (.node (some (t63)) .nil .nil) .nil) (.node (some (t47)) (.node (some (t79)) .nil .nil) .nil)) (.node (some (t23)) (.node (some (t39)) (.node (some (t71)) .nil .nil) .nil) .nil)) (.node (some (t11)) (.node (some (t19)) (.node none (.node (some (t67)) .nil .nil) .nil) (.node (some (t51)) .nil .nil)) (.node (some (t27)) (.node (some (t43)) (.node (some (t75)) .nil .nil) .nil) (.node (some (t59)) .nil .nil)))) (.node (some (t5)) (.node (some (t9)) (.node (some (t17)) (.node (some (t33)) (.node (some (t65)) .nil .nil) .nil) (.node (some (t49)) .nil .nil)) (.node none (.node (some (t41)) (.node (some (t73)) .nil .nil) .nil) (.node (some (t57)) .nil .nil))) (.node (some (t13)) (.node (some (t21)) (.node none (.node (some (t69)) .nil .nil) .nil) .nil) (.node (some (t29)) (.node (some (t45)) (.node (some (t77)) .nil .nil) .nil) (.node (some (t61)) .nil .nil))))) (.node (some (t2)) (.node (some (t4)) (.node (some (t8)) (.node (some (t16)) (.node (some (t32)) (.node (some (t64)) .nil .nil) .nil) (.node (some (t48)) .nil .nil)) (.node (some (t24)) (.node (some (t40)) (.node (some (t72)) .nil .nil) .nil) (.node (some (t56)) .nil .nil))) (.node (some (t12)) (.node none (.node (some (t36)) (.node (some (t68)) .nil .nil) .nil) (.node (some (t52)) .nil .nil)) (.node (some (t28)) (.node (some (t44)) (.node (some (t76)) .nil .nil) .nil) .nil))) (.node (some (t6)) (.node (some (t10)) (.node (some (t18)) (.node (some (t34)) (.node (some (t66)) .nil .nil) .nil) (.node (some (t50)) .nil .nil)) (.node (some (t26)) (.node (some (t42)) (.node (some (t74)) .nil .nil) .nil) (.node (some (t58)) .nil .nil))) (.node (some (t14)) (.node (some (t22)) (.node (some (t38)) (.node (some (t70)) .nil .nil) .nil) .nil) (.node (some (t30)) (.node none (.node (some (t78)) .nil .nil) .nil) .nil)))))
noncomputable def fns : Tr Func := (.node (some (Try.f0)) (.node (some (Try.f1)) (.node (some (Try.f3)) (.node (some (Try.f7)) (.node (some (Try.f15)) (.node (some (Try.f31)) .nil .nil) (.node (some (Try.f47)) .nil .nil)) (.node (some (Try.f23)) (.node (some (Try.f39)) .nil .nil) (.node (some (Try.f55)) .nil .nil))) (.node (some (Try.f11)) (.node (some (Try.f19)) (.node (some (Try.f35)) .nil .nil) (.node (some (Try.f51)) .nil .nil)) (.node (some (Try.f27)) (.node (some (Try.f43)) .nil .nil) .nil))) (.node (some (Try.f5)) (.node (some (Try.f9)) (.node (some (Try.f17)) (.node (some (Try.f33)) .nil .nil) (.node (some (Try.f49)) .nil .nil)) (.node (some (Try.f25)) (.node (some (Try.f41)) .nil .nil) .nil)) (.node (some (Try.f13)) (.node (some (Try.f21)) (.node (some (Try.f37)) .nil .nil) (.node (some (Try.f53)) .nil .nil)) (.node (some (Try.f29)) (.node (some (Try.f45)) .nil .nil) .nil)))) (.node (some (Try.f2)) (.node (some (Try.f4)) (.node (some (Try.f8)) (.node (some (Try.f16)) (.node (some (Try.f32)) .nil .nil) (.node (some (Try.f48)) .nil .nil)) (.node (some (Try.f24)) (.node (some (Try.f40)) .nil .nil) (.node (some (Try.f56)) .nil .nil))) (.node (some (Try.f12)) (.node (some (Try.f20)) (.node (some (Try.f36)) .nil .nil) (.node (some (Try.f52)) .nil .nil)) (.node (some (Try.f28)) (.node (some (Try.f44)) .nil .nil) .nil))) (.node (some (Try.f6)) (.node (some (Try.f10)) (.node (some (Try.f18)) (.node (some (Try.f34)) .nil .nil) (.node (some (Try.f50)) .nil .nil)) (.node (some (Try.f26)) (.node (some (Try.f42)) .nil .nil) .nil)) (.node (some (Try.f14)) (.node (some (Try.f22)) (.node (some (Try.f38)) .nil .nil) (.node (some (Try.f54)) .nil .nil)) (.node (some (Try.f30)) (.node (some (Try.f46)) .nil .nil) .nil)))))
def eqts : Tr Unit := (.node none .nil (.node none .nil (.node none (.node none .nil (.node none (.node (some (())) .nil .nil) .nil)) (.node none (.node none (.node none (.node (some (())) .nil .nil) .nil) .nil) .nil))))
def laid : List (Nat × List Value) := []
def gsize : Nat := 0
noncomputable def X0 : Prg := ⟨tys.get, fns.get, fun t => (eqts.get t).isSome, laid, fun _ _ => none⟩
set_option maxRecDepth 100000
theorem sound0 : SoundF X0 Try.prog := soundF_of tys fns eqts laid (by kernel_rfl) (by kernel_rfl) (by kernel_rfl) (by kernel_rfl) (by kernel_rfl) (by kernel_rfl) (by kernel_rfl) (by kernel_rfl) (by kernel_rfl)
end Go.Proofs.Ytpckldhojfjdmaa.Ab
