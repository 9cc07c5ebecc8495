import Derived.Test.YticllcglldbffaaDoorD3
import Derived.Test.YticllcglldbffaaDoorT
namespace Go.Proofs.YticllcglldbffaaDoor.Ab
open Go.Proofs
set_option maxRecDepth 100000
noncomputable def XK (k : Nat → List Value → Option Value) : Prg := X0.knowing k
theorem J8 {k : Nat → List Value → Option Value} (hk : mH Tryd.prog laid k) : dG (XK k) Tryd.prog := auV.knowing hk
theorem gw : ft oj X0 = true := by kernel_rfl
section
variable {k : Nat → List Value → Option Value}
theorem ty2 : (XK k).ty 2 = some ⟨ .int .i64, 1, 8, .int .i64 0⟩ := rfl
theorem ty3 : (XK k).ty 3 = some ⟨ .int .i64, 1, 8, .int .i64 0⟩ := rfl
theorem ayY : (XK k).und 4 = some (.bool) := rfl
theorem ty5 : (XK k).ty 5 = some ⟨ .int .u8, 1, 1, .int .u8 0⟩ := rfl
theorem axI : (XK k).und 5 = some (.int .u8) := rfl
theorem ty9 : (XK k).ty 9 = some ⟨ .string, 1, 16, .string ⟨#[]⟩⟩ := rfl
theorem ay3 : (XK k).und 9 = some (.string) := rfl
theorem ay4 : (XK k).ty 21 = some ⟨ .int .i32, 1, 4, .int .i32 0⟩ := rfl
theorem ay7 : (XK k).ty 38 = some ⟨ .slice 44, 1, 24, .slice none 0 0⟩ := rfl
theorem aw2 : (XK k).und 38 = some (.slice 44) := rfl
theorem axW : (XK k).ty 44 = some ⟨ .struct #[⟨ "Kind", 3, 0, false, "", "", 0⟩, ⟨ "N", 3, 1, false, "", "", 8⟩, ⟨ "M", 3, 2, false, "", "", 16⟩, ⟨ "Text", 9, 3, false, "", "", 24⟩], 4, 40, .agg #[(.int .i64 0), (.int .i64 0), (.int .i64 0), (.string ⟨#[]⟩)]⟩ := rfl
theorem awK : (XK k).und 44 = some (.struct #[⟨ "Kind", 3, 0, false, "", "", 0⟩, ⟨ "N", 3, 1, false, "", "", 8⟩, ⟨ "M", 3, 2, false, "", "", 16⟩, ⟨ "Text", 9, 3, false, "", "", 24⟩]) := rfl
theorem ay6 : (XK k).ty 50 = some ⟨ .slice 3, 1, 24, .slice none 0 0⟩ := rfl
theorem qx : (XK k).und 50 = some (.slice 3) := rfl
theorem av1 : (XK k).und 66 = some (.slice 9) := rfl
theorem axJ : (XK k).ty 68 = some ⟨ .slice 5, 1, 24, .slice none 0 0⟩ := rfl
theorem awD : (XK k).und 68 = some (.slice 5) := rfl
theorem ayZ : (XK k).ty 69 = some ⟨ .pointer 71, 1, 8, .pointer none⟩ := rfl
theorem av2 : (XK k).und 69 = some (.pointer 71) := rfl
theorem ayU : (XK k).ty 71 = some ⟨ .struct #[⟨ "addr", 69, 0, false, "", "strings", 0⟩, ⟨ "buf", 68, 1, false, "", "strings", 8⟩], 2, 32, .agg #[(.pointer none), (.slice none 0 0)]⟩ := rfl
theorem awY : (XK k).und 71 = some (.struct #[⟨ "addr", 69, 0, false, "", "strings", 0⟩, ⟨ "buf", 68, 1, false, "", "strings", 8⟩]) := rfl
theorem au8 : (XK k).und 100 = some (.pointer 5) := rfl
theorem av7 : (XK k).ty 114 = some ⟨ .int .u64, 1, 8, .int .u64 0⟩ := rfl
theorem axA : (XK k).ty 120 = some ⟨ .unsafePointer, 1, 8, .pointer none⟩ := rfl
theorem avT : (XK k).ty 135 = some ⟨ .array 64 5, 64, 64, .agg #[(.int .u8 0), (.int .u8 0), (.int .u8 0), (.int .u8 0), (.int .u8 0), (.int .u8 0), (.int .u8 0), (.int .u8 0), (.int .u8 0), (.int .u8 0), (.int .u8 0), (.int .u8 0), (.int .u8 0), (.int .u8 0), (.int .u8 0), (.int .u8 0), (.int .u8 0), (.int .u8 0), (.int .u8 0), (.int .u8 0), (.int .u8 0), (.int .u8 0), (.int .u8 0), (.int .u8 0), (.int .u8 0), (.int .u8 0), (.int .u8 0), (.int .u8 0), (.int .u8 0), (.int .u8 0), (.int .u8 0), (.int .u8 0), (.int .u8 0), (.int .u8 0), (.int .u8 0), (.int .u8 0), (.int .u8 0), (.int .u8 0), (.int .u8 0), (.int .u8 0), (.int .u8 0), (.int .u8 0), (.int .u8 0), (.int .u8 0), (.int .u8 0), (.int .u8 0), (.int .u8 0), (.int .u8 0), (.int .u8 0), (.int .u8 0), (.int .u8 0), (.int .u8 0), (.int .u8 0), (.int .u8 0), (.int .u8 0), (.int .u8 0), (.int .u8 0), (.int .u8 0), (.int .u8 0), (.int .u8 0), (.int .u8 0), (.int .u8 0), (.int .u8 0), (.int .u8 0)]⟩ := rfl
theorem atH : (XK k).und 135 = some (.array 64 5) := rfl
theorem au4 : (XK k).und 155 = some (.array 168 21) := rfl
theorem asF : (XK k).und 156 = some (.array 102 21) := rfl
theorem ay1 : be (XK k) 8 44 = some ([.int .i64, .int .i64, .int .i64, .str]) := by kernel_rfl
end
attribute [push_cast] ty3 ty5 ty9 ay4
attribute [push_cast] ay7 axW ay6
attribute [push_cast] axJ ayZ ayU
attribute [push_cast] av7 axA avT
attribute [push_cast] ayY axI ay3
attribute [push_cast] aw2 awK qx
attribute [push_cast] av1 awD av2 awY au8
attribute [push_cast] atH au4 asF
attribute [push_cast] ay1
end Go.Proofs.YticllcglldbffaaDoor.Ab
