/- This seat's program with whatever is known; its types, one by one. Written by mktab.py. -/
import Derived.Test.YtndedkpcfjnecaaDoorA26
import Derived.Test.YtndedkpcfjnecaaDoorT
namespace Go.Proofs.YtndedkpcfjnecaaDoor.Ab
open Go.Proofs
set_option maxRecDepth 100000
noncomputable def XK (k : Nat → List Value → Option Value) : Prg := X0.knowing k
theorem soundK {k : Nat → List Value → Option Value} (hk : Knows Tryd.prog laid k) : SoundF (XK k) Tryd.prog := sound0.knowing hk
theorem laidW : laidWell gsize X0 = true := by kernel_rfl
section
variable {k : Nat → List Value → Option Value}
theorem ty1 : (XK k).ty 1 = some ⟨ .func #[] #[] false, 1, 8, .nilFunc⟩ := rfl
theorem und1 : (XK k).und 1 = some (.func #[] #[] false) := rfl
theorem ty2 : (XK k).ty 2 = some ⟨ .int .i64, 1, 8, .int .i64 0⟩ := rfl
theorem und2 : (XK k).und 2 = some (.int .i64) := rfl
theorem ty3 : (XK k).ty 3 = some ⟨ .int .i64, 1, 8, .int .i64 0⟩ := rfl
theorem und3 : (XK k).und 3 = some (.int .i64) := rfl
theorem ty4 : (XK k).ty 4 = some ⟨ .bool, 1, 1, .bool false⟩ := rfl
theorem und4 : (XK k).und 4 = some (.bool) := rfl
theorem ty5 : (XK k).ty 5 = some ⟨ .int .u8, 1, 1, .int .u8 0⟩ := rfl
theorem und5 : (XK k).und 5 = some (.int .u8) := rfl
theorem ty6 : (XK k).ty 6 = some ⟨ .int .u8, 1, 1, .int .u8 0⟩ := rfl
theorem und6 : (XK k).und 6 = some (.int .u8) := rfl
theorem ty7 : (XK k).ty 7 = some ⟨ .struct #[⟨ "x", 2, 0, false, "", "runtime", 0⟩, ⟨ "y", 3, 1, false, "", "runtime", 8⟩, ⟨ "signed", 4, 2, false, "", "runtime", 16⟩, ⟨ "code", 6, 3, false, "", "runtime", 17⟩], 4, 24, .agg #[(.int .i64 0), (.int .i64 0), (.bool false), (.int .u8 0)]⟩ := rfl
theorem und7 : (XK k).und 7 = some (.struct #[⟨ "x", 2, 0, false, "", "runtime", 0⟩, ⟨ "y", 3, 1, false, "", "runtime", 8⟩, ⟨ "signed", 4, 2, false, "", "runtime", 16⟩, ⟨ "code", 6, 3, false, "", "runtime", 17⟩]) := rfl
theorem ty8 : (XK k).ty 8 = some ⟨ .struct #[⟨ "x", 2, 0, false, "", "runtime", 0⟩, ⟨ "y", 3, 1, false, "", "runtime", 8⟩, ⟨ "signed", 4, 2, false, "", "runtime", 16⟩, ⟨ "code", 6, 3, false, "", "runtime", 17⟩], 4, 24, .agg #[(.int .i64 0), (.int .i64 0), (.bool false), (.int .u8 0)]⟩ := rfl
theorem und8 : (XK k).und 8 = some (.struct #[⟨ "x", 2, 0, false, "", "runtime", 0⟩, ⟨ "y", 3, 1, false, "", "runtime", 8⟩, ⟨ "signed", 4, 2, false, "", "runtime", 16⟩, ⟨ "code", 6, 3, false, "", "runtime", 17⟩]) := rfl
theorem ty9 : (XK k).ty 9 = some ⟨ .string, 1, 16, .string ⟨#[]⟩⟩ := rfl
theorem und9 : (XK k).und 9 = some (.string) := rfl
theorem ty10 : (XK k).ty 10 = some ⟨ .string, 1, 16, .string ⟨#[]⟩⟩ := rfl
theorem und10 : (XK k).und 10 = some (.string) := rfl
theorem ty11 : (XK k).ty 11 = some ⟨ .string, 1, 16, .string ⟨#[]⟩⟩ := rfl
theorem und11 : (XK k).und 11 = some (.string) := rfl
theorem ty12 : (XK k).ty 12 = some ⟨ .int .u64, 1, 8, .int .u64 0⟩ := rfl
theorem und12 : (XK k).und 12 = some (.int .u64) := rfl
theorem ty13 : (XK k).ty 13 = some ⟨ .struct #[⟨ "msg", 9, 0, false, "", "runtime", 0⟩, ⟨ "addr", 12, 1, false, "", "runtime", 16⟩], 2, 24, .agg #[(.string ⟨#[]⟩), (.int .u64 0)]⟩ := rfl
theorem und13 : (XK k).und 13 = some (.struct #[⟨ "msg", 9, 0, false, "", "runtime", 0⟩, ⟨ "addr", 12, 1, false, "", "runtime", 16⟩]) := rfl
theorem ty14 : (XK k).ty 14 = some ⟨ .struct #[⟨ "msg", 9, 0, false, "", "runtime", 0⟩, ⟨ "addr", 12, 1, false, "", "runtime", 16⟩], 2, 24, .agg #[(.string ⟨#[]⟩), (.int .u64 0)]⟩ := rfl
theorem und14 : (XK k).und 14 = some (.struct #[⟨ "msg", 9, 0, false, "", "runtime", 0⟩, ⟨ "addr", 12, 1, false, "", "runtime", 16⟩]) := rfl
theorem ty15 : (XK k).ty 15 = some ⟨ .pointer 83, 1, 8, .pointer none⟩ := rfl
theorem und15 : (XK k).und 15 = some (.pointer 83) := rfl
theorem ty16 : (XK k).ty 16 = some ⟨ .pointer 86, 1, 8, .pointer none⟩ := rfl
theorem und16 : (XK k).und 16 = some (.pointer 86) := rfl
theorem ty17 : (XK k).ty 17 = some ⟨ .pointer 95, 1, 8, .pointer none⟩ := rfl
theorem und17 : (XK k).und 17 = some (.pointer 95) := rfl
theorem ty18 : (XK k).ty 18 = some ⟨ .struct #[⟨ "typ", 17, 0, false, "", "internal/runtime/maps", 0⟩], 1, 8, .agg #[(.pointer none)]⟩ := rfl
theorem und18 : (XK k).und 18 = some (.struct #[⟨ "typ", 17, 0, false, "", "internal/runtime/maps", 0⟩]) := rfl
theorem ty19 : (XK k).ty 19 = some ⟨ .struct #[⟨ "typ", 17, 0, false, "", "internal/runtime/maps", 0⟩], 1, 8, .agg #[(.pointer none)]⟩ := rfl
theorem und19 : (XK k).und 19 = some (.struct #[⟨ "typ", 17, 0, false, "", "internal/runtime/maps", 0⟩]) := rfl
theorem ty21 : (XK k).ty 21 = some ⟨ .int .i32, 1, 4, .int .i32 0⟩ := rfl
theorem und21 : (XK k).und 21 = some (.int .i32) := rfl
theorem ty22 : (XK k).ty 22 = some ⟨ .func #[3] #[3] false, 1, 8, .nilFunc⟩ := rfl
theorem und22 : (XK k).und 22 = some (.func #[3] #[3] false) := rfl
theorem ty23 : (XK k).ty 23 = some ⟨ .func #[] #[4] false, 1, 8, .nilFunc⟩ := rfl
theorem und23 : (XK k).und 23 = some (.func #[] #[4] false) := rfl
theorem ty24 : (XK k).ty 24 = some ⟨ .func #[3] #[4] false, 1, 8, .nilFunc⟩ := rfl
theorem und24 : (XK k).und 24 = some (.func #[3] #[4] false) := rfl
theorem ty25 : (XK k).ty 25 = some ⟨ .slice 3, 1, 24, .slice none 0 0⟩ := rfl
theorem und25 : (XK k).und 25 = some (.slice 3) := rfl
theorem ty26 : (XK k).ty 26 = some ⟨ .array 13 3, 13, 104, .agg #[(.int .i64 0), (.int .i64 0), (.int .i64 0), (.int .i64 0), (.int .i64 0), (.int .i64 0), (.int .i64 0), (.int .i64 0), (.int .i64 0), (.int .i64 0), (.int .i64 0), (.int .i64 0), (.int .i64 0)]⟩ := rfl
theorem und26 : (XK k).und 26 = some (.array 13 3) := rfl
theorem ty27 : (XK k).ty 27 = some ⟨ .func #[25] #[26] false, 1, 8, .nilFunc⟩ := rfl
theorem und27 : (XK k).und 27 = some (.func #[25] #[26] false) := rfl
theorem ty28 : (XK k).ty 28 = some ⟨ .func #[25, 25] #[4] false, 1, 8, .nilFunc⟩ := rfl
theorem und28 : (XK k).und 28 = some (.func #[25, 25] #[4] false) := rfl
theorem ty29 : (XK k).ty 29 = some ⟨ .slice 33, 1, 24, .slice none 0 0⟩ := rfl
theorem und29 : (XK k).und 29 = some (.slice 33) := rfl
theorem ty30 : (XK k).ty 30 = some ⟨ .func #[29, 25] #[29] true, 1, 8, .nilFunc⟩ := rfl
theorem und30 : (XK k).und 30 = some (.func #[29, 25] #[29] true) := rfl
theorem ty31 : (XK k).ty 31 = some ⟨ .func #[29] #[25] false, 1, 8, .nilFunc⟩ := rfl
theorem und31 : (XK k).und 31 = some (.func #[29] #[25] false) := rfl
theorem ty32 : (XK k).ty 32 = some ⟨ .struct #[⟨ "V", 3, 0, false, "", "", 0⟩, ⟨ "L", 3, 1, false, "", "", 8⟩], 2, 16, .agg #[(.int .i64 0), (.int .i64 0)]⟩ := rfl
theorem und32 : (XK k).und 32 = some (.struct #[⟨ "V", 3, 0, false, "", "", 0⟩, ⟨ "L", 3, 1, false, "", "", 8⟩]) := rfl
theorem ty33 : (XK k).ty 33 = some ⟨ .struct #[⟨ "V", 3, 0, false, "", "", 0⟩, ⟨ "L", 3, 1, false, "", "", 8⟩], 2, 16, .agg #[(.int .i64 0), (.int .i64 0)]⟩ := rfl
theorem und33 : (XK k).und 33 = some (.struct #[⟨ "V", 3, 0, false, "", "", 0⟩, ⟨ "L", 3, 1, false, "", "", 8⟩]) := rfl
theorem ty34 : (XK k).ty 34 = some ⟨ .func #[29, 25] #[4] false, 1, 8, .nilFunc⟩ := rfl
theorem und34 : (XK k).und 34 = some (.func #[29, 25] #[4] false) := rfl
theorem ty35 : (XK k).ty 35 = some ⟨ .func #[3, 25] #[4] false, 1, 8, .nilFunc⟩ := rfl
theorem und35 : (XK k).und 35 = some (.func #[3, 25] #[4] false) := rfl
theorem ty37 : (XK k).ty 37 = some ⟨ .func #[3] #[3, 4] false, 1, 8, .nilFunc⟩ := rfl
theorem und37 : (XK k).und 37 = some (.func #[3] #[3, 4] false) := rfl
theorem ty38 : (XK k).ty 38 = some ⟨ .func #[24] #[3] false, 1, 8, .nilFunc⟩ := rfl
theorem und38 : (XK k).und 38 = some (.func #[24] #[3] false) := rfl
theorem ty39 : (XK k).ty 39 = some ⟨ .func #[3] #[38] false, 1, 8, .nilFunc⟩ := rfl
theorem und39 : (XK k).und 39 = some (.func #[3] #[38] false) := rfl
theorem ty41 : (XK k).ty 41 = some ⟨ .func #[29, 3] #[3, 3] false, 1, 8, .nilFunc⟩ := rfl
theorem und41 : (XK k).und 41 = some (.func #[29, 3] #[3, 3] false) := rfl
theorem ty42 : (XK k).ty 42 = some ⟨ .func #[29, 3] #[3] false, 1, 8, .nilFunc⟩ := rfl
theorem und42 : (XK k).und 42 = some (.func #[29, 3] #[3] false) := rfl
theorem ty43 : (XK k).ty 43 = some ⟨ .func #[29, 3, 4] #[3] false, 1, 8, .nilFunc⟩ := rfl
theorem und43 : (XK k).und 43 = some (.func #[29, 3, 4] #[3] false) := rfl
theorem ty44 : (XK k).ty 44 = some ⟨ .array 6 3, 6, 48, .agg #[(.int .i64 0), (.int .i64 0), (.int .i64 0), (.int .i64 0), (.int .i64 0), (.int .i64 0)]⟩ := rfl
theorem und44 : (XK k).und 44 = some (.array 6 3) := rfl
theorem ty45 : (XK k).ty 45 = some ⟨ .struct #[⟨ "All", 3, 0, false, "", "", 0⟩, ⟨ "By", 44, 1, false, "", "", 8⟩, ⟨ "Danger", 3, 7, false, "", "", 56⟩, ⟨ "Looks", 3, 8, false, "", "", 64⟩, ⟨ "Wild", 3, 9, false, "", "", 72⟩, ⟨ "First", 3, 10, false, "", "", 80⟩], 11, 88, .agg #[(.int .i64 0), (.int .i64 0), (.int .i64 0), (.int .i64 0), (.int .i64 0), (.int .i64 0), (.int .i64 0), (.int .i64 0), (.int .i64 0), (.int .i64 0), (.int .i64 0)]⟩ := rfl
theorem und45 : (XK k).und 45 = some (.struct #[⟨ "All", 3, 0, false, "", "", 0⟩, ⟨ "By", 44, 1, false, "", "", 8⟩, ⟨ "Danger", 3, 7, false, "", "", 56⟩, ⟨ "Looks", 3, 8, false, "", "", 64⟩, ⟨ "Wild", 3, 9, false, "", "", 72⟩, ⟨ "First", 3, 10, false, "", "", 80⟩]) := rfl
theorem ty46 : (XK k).ty 46 = some ⟨ .struct #[⟨ "All", 3, 0, false, "", "", 0⟩, ⟨ "By", 44, 1, false, "", "", 8⟩, ⟨ "Danger", 3, 7, false, "", "", 56⟩, ⟨ "Looks", 3, 8, false, "", "", 64⟩, ⟨ "Wild", 3, 9, false, "", "", 72⟩, ⟨ "First", 3, 10, false, "", "", 80⟩], 11, 88, .agg #[(.int .i64 0), (.int .i64 0), (.int .i64 0), (.int .i64 0), (.int .i64 0), (.int .i64 0), (.int .i64 0), (.int .i64 0), (.int .i64 0), (.int .i64 0), (.int .i64 0)]⟩ := rfl
theorem und46 : (XK k).und 46 = some (.struct #[⟨ "All", 3, 0, false, "", "", 0⟩, ⟨ "By", 44, 1, false, "", "", 8⟩, ⟨ "Danger", 3, 7, false, "", "", 56⟩, ⟨ "Looks", 3, 8, false, "", "", 64⟩, ⟨ "Wild", 3, 9, false, "", "", 72⟩, ⟨ "First", 3, 10, false, "", "", 80⟩]) := rfl
theorem ty47 : (XK k).ty 47 = some ⟨ .func #[29] #[46] false, 1, 8, .nilFunc⟩ := rfl
theorem und47 : (XK k).und 47 = some (.func #[29] #[46] false) := rfl
theorem ty48 : (XK k).ty 48 = some ⟨ .func #[46] #[9] false, 1, 8, .nilFunc⟩ := rfl
theorem und48 : (XK k).und 48 = some (.func #[46] #[9] false) := rfl
theorem ty49 : (XK k).ty 49 = some ⟨ .func #[29] #[4] false, 1, 8, .nilFunc⟩ := rfl
theorem und49 : (XK k).und 49 = some (.func #[29] #[4] false) := rfl
theorem ty50 : (XK k).ty 50 = some ⟨ .func #[29] #[29] false, 1, 8, .nilFunc⟩ := rfl
theorem und50 : (XK k).und 50 = some (.func #[29] #[29] false) := rfl
theorem ty51 : (XK k).ty 51 = some ⟨ .func #[25] #[50] false, 1, 8, .nilFunc⟩ := rfl
theorem und51 : (XK k).und 51 = some (.func #[25] #[50] false) := rfl
theorem ty52 : (XK k).ty 52 = some ⟨ .array 102 21, 102, 408, .agg #[(.int .i32 0), (.int .i32 0), (.int .i32 0), (.int .i32 0), (.int .i32 0), (.int .i32 0), (.int .i32 0), (.int .i32 0), (.int .i32 0), (.int .i32 0), (.int .i32 0), (.int .i32 0), (.int .i32 0), (.int .i32 0), (.int .i32 0), (.int .i32 0), (.int .i32 0), (.int .i32 0), (.int .i32 0), (.int .i32 0), (.int .i32 0), (.int .i32 0), (.int .i32 0), (.int .i32 0), (.int .i32 0), (.int .i32 0), (.int .i32 0), (.int .i32 0), (.int .i32 0), (.int .i32 0), (.int .i32 0), (.int .i32 0), (.int .i32 0), (.int .i32 0), (.int .i32 0), (.int .i32 0), (.int .i32 0), (.int .i32 0), (.int .i32 0), (.int .i32 0), (.int .i32 0), (.int .i32 0), (.int .i32 0), (.int .i32 0), (.int .i32 0), (.int .i32 0), (.int .i32 0), (.int .i32 0), (.int .i32 0), (.int .i32 0), (.int .i32 0), (.int .i32 0), (.int .i32 0), (.int .i32 0), (.int .i32 0), (.int .i32 0), (.int .i32 0), (.int .i32 0), (.int .i32 0), (.int .i32 0), (.int .i32 0), (.int .i32 0), (.int .i32 0), (.int .i32 0), (.int .i32 0), (.int .i32 0), (.int .i32 0), (.int .i32 0), (.int .i32 0), (.int .i32 0), (.int .i32 0), (.int .i32 0), (.int .i32 0), (.int .i32 0), (.int .i32 0), (.int .i32 0), (.int .i32 0), (.int .i32 0), (.int .i32 0), (.int .i32 0), (.int .i32 0), (.int .i32 0), (.int .i32 0), (.int .i32 0), (.int .i32 0), (.int .i32 0), (.int .i32 0), (.int .i32 0), (.int .i32 0), (.int .i32 0), (.int .i32 0), (.int .i32 0), (.int .i32 0), (.int .i32 0), (.int .i32 0), (.int .i32 0), (.int .i32 0), (.int .i32 0), (.int .i32 0), (.int .i32 0), (.int .i32 0), (.int .i32 0)]⟩ := rfl
theorem und52 : (XK k).und 52 = some (.array 102 21) := rfl
theorem ty53 : (XK k).ty 53 = some ⟨ .array 168 21, 168, 672, .agg #[(.int .i32 0), (.int .i32 0), (.int .i32 0), (.int .i32 0), (.int .i32 0), (.int .i32 0), (.int .i32 0), (.int .i32 0), (.int .i32 0), (.int .i32 0), (.int .i32 0), (.int .i32 0), (.int .i32 0), (.int .i32 0), (.int .i32 0), (.int .i32 0), (.int .i32 0), (.int .i32 0), (.int .i32 0), (.int .i32 0), (.int .i32 0), (.int .i32 0), (.int .i32 0), (.int .i32 0), (.int .i32 0), (.int .i32 0), (.int .i32 0), (.int .i32 0), (.int .i32 0), (.int .i32 0), (.int .i32 0), (.int .i32 0), (.int .i32 0), (.int .i32 0), (.int .i32 0), (.int .i32 0), (.int .i32 0), (.int .i32 0), (.int .i32 0), (.int .i32 0), (.int .i32 0), (.int .i32 0), (.int .i32 0), (.int .i32 0), (.int .i32 0), (.int .i32 0), (.int .i32 0), (.int .i32 0), (.int .i32 0), (.int .i32 0), (.int .i32 0), (.int .i32 0), (.int .i32 0), (.int .i32 0), (.int .i32 0), (.int .i32 0), (.int .i32 0), (.int .i32 0), (.int .i32 0), (.int .i32 0), (.int .i32 0), (.int .i32 0), (.int .i32 0), (.int .i32 0), (.int .i32 0), (.int .i32 0), (.int .i32 0), (.int .i32 0), (.int .i32 0), (.int .i32 0), (.int .i32 0), (.int .i32 0), (.int .i32 0), (.int .i32 0), (.int .i32 0), (.int .i32 0), (.int .i32 0), (.int .i32 0), (.int .i32 0), (.int .i32 0), (.int .i32 0), (.int .i32 0), (.int .i32 0), (.int .i32 0), (.int .i32 0), (.int .i32 0), (.int .i32 0), (.int .i32 0), (.int .i32 0), (.int .i32 0), (.int .i32 0), (.int .i32 0), (.int .i32 0), (.int .i32 0), (.int .i32 0), (.int .i32 0), (.int .i32 0), (.int .i32 0), (.int .i32 0), (.int .i32 0), (.int .i32 0), (.int .i32 0), (.int .i32 0), (.int .i32 0), (.int .i32 0), (.int .i32 0), (.int .i32 0), (.int .i32 0), (.int .i32 0), (.int .i32 0), (.int .i32 0), (.int .i32 0), (.int .i32 0), (.int .i32 0), (.int .i32 0), (.int .i32 0), (.int .i32 0), (.int .i32 0), (.int .i32 0), (.int .i32 0), (.int .i32 0), (.int .i32 0), (.int .i32 0), (.int .i32 0), (.int .i32 0), (.int .i32 0), (.int .i32 0), (.int .i32 0), (.int .i32 0), (.int .i32 0), (.int .i32 0), (.int .i32 0), (.int .i32 0), (.int .i32 0), (.int .i32 0), (.int .i32 0), (.int .i32 0), (.int .i32 0), (.int .i32 0), (.int .i32 0), (.int .i32 0), (.int .i32 0), (.int .i32 0), (.int .i32 0), (.int .i32 0), (.int .i32 0), (.int .i32 0), (.int .i32 0), (.int .i32 0), (.int .i32 0), (.int .i32 0), (.int .i32 0), (.int .i32 0), (.int .i32 0), (.int .i32 0), (.int .i32 0), (.int .i32 0), (.int .i32 0), (.int .i32 0), (.int .i32 0), (.int .i32 0), (.int .i32 0), (.int .i32 0), (.int .i32 0), (.int .i32 0), (.int .i32 0), (.int .i32 0), (.int .i32 0)]⟩ := rfl
theorem und53 : (XK k).und 53 = some (.array 168 21) := rfl
theorem ty54 : (XK k).ty 54 = some ⟨ .struct #[⟨ "stands", 24, 0, false, "", "dactyl/word", 0⟩, ⟨ "begins", 24, 1, false, "", "dactyl/word", 8⟩, ⟨ "ends", 24, 2, false, "", "dactyl/word", 16⟩], 3, 24, .agg #[.nilFunc, .nilFunc, .nilFunc]⟩ := rfl
theorem und54 : (XK k).und 54 = some (.struct #[⟨ "stands", 24, 0, false, "", "dactyl/word", 0⟩, ⟨ "begins", 24, 1, false, "", "dactyl/word", 8⟩, ⟨ "ends", 24, 2, false, "", "dactyl/word", 16⟩]) := rfl
theorem ty55 : (XK k).ty 55 = some ⟨ .struct #[⟨ "stands", 24, 0, false, "", "dactyl/word", 0⟩, ⟨ "begins", 24, 1, false, "", "dactyl/word", 8⟩, ⟨ "ends", 24, 2, false, "", "dactyl/word", 16⟩], 3, 24, .agg #[.nilFunc, .nilFunc, .nilFunc]⟩ := rfl
theorem und55 : (XK k).und 55 = some (.struct #[⟨ "stands", 24, 0, false, "", "dactyl/word", 0⟩, ⟨ "begins", 24, 1, false, "", "dactyl/word", 8⟩, ⟨ "ends", 24, 2, false, "", "dactyl/word", 16⟩]) := rfl
theorem ty56 : (XK k).ty 56 = some ⟨ .func #[29] #[55] false, 1, 8, .nilFunc⟩ := rfl
theorem und56 : (XK k).und 56 = some (.func #[29] #[55] false) := rfl
theorem ty57 : (XK k).ty 57 = some ⟨ .func #[4] #[56] false, 1, 8, .nilFunc⟩ := rfl
theorem und57 : (XK k).und 57 = some (.func #[4] #[56] false) := rfl
theorem ty58 : (XK k).ty 58 = some ⟨ .func #[29, 3] #[4] false, 1, 8, .nilFunc⟩ := rfl
theorem und58 : (XK k).und 58 = some (.func #[29, 3] #[4] false) := rfl
theorem ty59 : (XK k).ty 59 = some ⟨ .func #[33] #[4] false, 1, 8, .nilFunc⟩ := rfl
theorem und59 : (XK k).und 59 = some (.func #[33] #[4] false) := rfl
theorem ty60 : (XK k).ty 60 = some ⟨ .func #[3] #[9] false, 1, 8, .nilFunc⟩ := rfl
theorem und60 : (XK k).und 60 = some (.func #[3] #[9] false) := rfl
theorem ty61 : (XK k).ty 61 = some ⟨ .slice 9, 1, 24, .slice none 0 0⟩ := rfl
theorem und61 : (XK k).und 61 = some (.slice 9) := rfl
theorem ty62 : (XK k).ty 62 = some ⟨ .func #[9, 3] #[] false, 1, 8, .nilFunc⟩ := rfl
theorem und62 : (XK k).und 62 = some (.func #[9, 3] #[] false) := rfl
theorem ty63 : (XK k).ty 63 = some ⟨ .func #[61, 9] #[9] false, 1, 8, .nilFunc⟩ := rfl
theorem und63 : (XK k).und 63 = some (.func #[61, 9] #[9] false) := rfl
theorem ty64 : (XK k).ty 64 = some ⟨ .func #[66] #[9] false, 1, 8, .nilFunc⟩ := rfl
theorem und64 : (XK k).und 64 = some (.func #[66] #[9] false) := rfl
theorem ty65 : (XK k).ty 65 = some ⟨ .func #[66] #[64] false, 1, 8, .nilFunc⟩ := rfl
theorem und65 : (XK k).und 65 = some (.func #[66] #[64] false) := rfl
theorem ty66 : (XK k).ty 66 = some ⟨ .int .u64, 1, 8, .int .u64 0⟩ := rfl
theorem und66 : (XK k).und 66 = some (.int .u64) := rfl
theorem ty67 : (XK k).ty 67 = some ⟨ .pointer 70, 1, 8, .pointer none⟩ := rfl
theorem und67 : (XK k).und 67 = some (.pointer 70) := rfl
theorem ty68 : (XK k).ty 68 = some ⟨ .slice 5, 1, 24, .slice none 0 0⟩ := rfl
theorem und68 : (XK k).und 68 = some (.slice 5) := rfl
theorem ty69 : (XK k).ty 69 = some ⟨ .struct #[⟨ "addr", 67, 0, false, "", "strings", 0⟩, ⟨ "buf", 68, 1, false, "", "strings", 8⟩], 2, 32, .agg #[(.pointer none), (.slice none 0 0)]⟩ := rfl
theorem und69 : (XK k).und 69 = some (.struct #[⟨ "addr", 67, 0, false, "", "strings", 0⟩, ⟨ "buf", 68, 1, false, "", "strings", 8⟩]) := rfl
theorem ty70 : (XK k).ty 70 = some ⟨ .struct #[⟨ "addr", 67, 0, false, "", "strings", 0⟩, ⟨ "buf", 68, 1, false, "", "strings", 8⟩], 2, 32, .agg #[(.pointer none), (.slice none 0 0)]⟩ := rfl
theorem und70 : (XK k).und 70 = some (.struct #[⟨ "addr", 67, 0, false, "", "strings", 0⟩, ⟨ "buf", 68, 1, false, "", "strings", 8⟩]) := rfl
theorem ty71 : (XK k).ty 71 = some ⟨ .func #[3] #[] false, 1, 8, .nilFunc⟩ := rfl
theorem und71 : (XK k).und 71 = some (.func #[3] #[] false) := rfl
theorem ty75 : (XK k).ty 75 = some ⟨ .func #[9] #[3, 73] false, 1, 8, .nilFunc⟩ := rfl
theorem und75 : (XK k).und 75 = some (.func #[9] #[3, 73] false) := rfl
theorem ty76 : (XK k).ty 76 = some ⟨ .func #[] #[9] false, 1, 8, .nilFunc⟩ := rfl
theorem und76 : (XK k).und 76 = some (.func #[] #[9] false) := rfl
theorem ty77 : (XK k).ty 77 = some ⟨ .array 64 5, 64, 64, .agg #[(.int .u8 0), (.int .u8 0), (.int .u8 0), (.int .u8 0), (.int .u8 0), (.int .u8 0), (.int .u8 0), (.int .u8 0), (.int .u8 0), (.int .u8 0), (.int .u8 0), (.int .u8 0), (.int .u8 0), (.int .u8 0), (.int .u8 0), (.int .u8 0), (.int .u8 0), (.int .u8 0), (.int .u8 0), (.int .u8 0), (.int .u8 0), (.int .u8 0), (.int .u8 0), (.int .u8 0), (.int .u8 0), (.int .u8 0), (.int .u8 0), (.int .u8 0), (.int .u8 0), (.int .u8 0), (.int .u8 0), (.int .u8 0), (.int .u8 0), (.int .u8 0), (.int .u8 0), (.int .u8 0), (.int .u8 0), (.int .u8 0), (.int .u8 0), (.int .u8 0), (.int .u8 0), (.int .u8 0), (.int .u8 0), (.int .u8 0), (.int .u8 0), (.int .u8 0), (.int .u8 0), (.int .u8 0), (.int .u8 0), (.int .u8 0), (.int .u8 0), (.int .u8 0), (.int .u8 0), (.int .u8 0), (.int .u8 0), (.int .u8 0), (.int .u8 0), (.int .u8 0), (.int .u8 0), (.int .u8 0), (.int .u8 0), (.int .u8 0), (.int .u8 0), (.int .u8 0)]⟩ := rfl
theorem und77 : (XK k).und 77 = some (.array 64 5) := rfl
theorem ty78 : (XK k).ty 78 = some ⟨ .pointer 5, 1, 8, .pointer none⟩ := rfl
theorem und78 : (XK k).und 78 = some (.pointer 5) := rfl
theorem ty80 : (XK k).ty 80 = some ⟨ .func #[79] #[79] false, 1, 8, .nilFunc⟩ := rfl
theorem und80 : (XK k).und 80 = some (.func #[79] #[79] false) := rfl
theorem ty81 : (XK k).ty 81 = some ⟨ .func #[3] #[68] false, 1, 8, .nilFunc⟩ := rfl
theorem und81 : (XK k).und 81 = some (.func #[3] #[68] false) := rfl
theorem ty82 : (XK k).ty 82 = some ⟨ .struct #[⟨ "_interface", 17, 0, false, "", "runtime", 0⟩, ⟨ "concrete", 17, 1, false, "", "runtime", 8⟩, ⟨ "asserted", 17, 2, false, "", "runtime", 16⟩, ⟨ "missingMethod", 9, 3, false, "", "runtime", 24⟩], 4, 40, .agg #[(.pointer none), (.pointer none), (.pointer none), (.string ⟨#[]⟩)]⟩ := rfl
theorem und82 : (XK k).und 82 = some (.struct #[⟨ "_interface", 17, 0, false, "", "runtime", 0⟩, ⟨ "concrete", 17, 1, false, "", "runtime", 8⟩, ⟨ "asserted", 17, 2, false, "", "runtime", 16⟩, ⟨ "missingMethod", 9, 3, false, "", "runtime", 24⟩]) := rfl
theorem ty83 : (XK k).ty 83 = some ⟨ .struct #[⟨ "_interface", 17, 0, false, "", "runtime", 0⟩, ⟨ "concrete", 17, 1, false, "", "runtime", 8⟩, ⟨ "asserted", 17, 2, false, "", "runtime", 16⟩, ⟨ "missingMethod", 9, 3, false, "", "runtime", 24⟩], 4, 40, .agg #[(.pointer none), (.pointer none), (.pointer none), (.string ⟨#[]⟩)]⟩ := rfl
theorem und83 : (XK k).und 83 = some (.struct #[⟨ "_interface", 17, 0, false, "", "runtime", 0⟩, ⟨ "concrete", 17, 1, false, "", "runtime", 8⟩, ⟨ "asserted", 17, 2, false, "", "runtime", 16⟩, ⟨ "missingMethod", 9, 3, false, "", "runtime", 24⟩]) := rfl
theorem ty84 : (XK k).ty 84 = some ⟨ .array 0 16, 0, 0, .agg #[]⟩ := rfl
theorem und84 : (XK k).und 84 = some (.array 0 16) := rfl
theorem ty85 : (XK k).ty 85 = some ⟨ .struct #[⟨ "_", 84, 0, false, "", "runtime", 0⟩], 0, 0, .agg #[]⟩ := rfl
theorem und85 : (XK k).und 85 = some (.struct #[⟨ "_", 84, 0, false, "", "runtime", 0⟩]) := rfl
theorem ty86 : (XK k).ty 86 = some ⟨ .struct #[⟨ "_", 84, 0, false, "", "runtime", 0⟩], 0, 0, .agg #[]⟩ := rfl
theorem und86 : (XK k).und 86 = some (.struct #[⟨ "_", 84, 0, false, "", "runtime", 0⟩]) := rfl
theorem ty87 : (XK k).ty 87 = some ⟨ .func #[] #[3] false, 1, 8, .nilFunc⟩ := rfl
theorem und87 : (XK k).und 87 = some (.func #[] #[3] false) := rfl
theorem ty88 : (XK k).ty 88 = some ⟨ .int .u32, 1, 4, .int .u32 0⟩ := rfl
theorem und88 : (XK k).und 88 = some (.int .u32) := rfl
theorem ty89 : (XK k).ty 89 = some ⟨ .int .u8, 1, 1, .int .u8 0⟩ := rfl
theorem und89 : (XK k).und 89 = some (.int .u8) := rfl
theorem ty90 : (XK k).ty 90 = some ⟨ .int .u8, 1, 1, .int .u8 0⟩ := rfl
theorem und90 : (XK k).und 90 = some (.int .u8) := rfl
theorem ty91 : (XK k).ty 91 = some ⟨ .func #[79, 79] #[4] false, 1, 8, .nilFunc⟩ := rfl
theorem und91 : (XK k).und 91 = some (.func #[79, 79] #[4] false) := rfl
theorem ty92 : (XK k).ty 92 = some ⟨ .int .i32, 1, 4, .int .i32 0⟩ := rfl
theorem und92 : (XK k).und 92 = some (.int .i32) := rfl
theorem ty93 : (XK k).ty 93 = some ⟨ .int .i32, 1, 4, .int .i32 0⟩ := rfl
theorem und93 : (XK k).und 93 = some (.int .i32) := rfl
theorem ty94 : (XK k).ty 94 = some ⟨ .struct #[⟨ "Size_", 12, 0, false, "", "", 0⟩, ⟨ "PtrBytes", 12, 1, false, "", "", 8⟩, ⟨ "Hash", 88, 2, false, "", "", 16⟩, ⟨ "TFlag", 89, 3, false, "", "", 20⟩, ⟨ "Align_", 5, 4, false, "", "", 21⟩, ⟨ "FieldAlign_", 5, 5, false, "", "", 22⟩, ⟨ "Kind_", 90, 6, false, "", "", 23⟩, ⟨ "Equal", 91, 7, false, "", "", 24⟩, ⟨ "GCData", 78, 8, false, "", "", 32⟩, ⟨ "Str", 92, 9, false, "", "", 40⟩, ⟨ "PtrToThis", 93, 10, false, "", "", 44⟩], 11, 48, .agg #[(.int .u64 0), (.int .u64 0), (.int .u32 0), (.int .u8 0), (.int .u8 0), (.int .u8 0), (.int .u8 0), .nilFunc, (.pointer none), (.int .i32 0), (.int .i32 0)]⟩ := rfl
theorem und94 : (XK k).und 94 = some (.struct #[⟨ "Size_", 12, 0, false, "", "", 0⟩, ⟨ "PtrBytes", 12, 1, false, "", "", 8⟩, ⟨ "Hash", 88, 2, false, "", "", 16⟩, ⟨ "TFlag", 89, 3, false, "", "", 20⟩, ⟨ "Align_", 5, 4, false, "", "", 21⟩, ⟨ "FieldAlign_", 5, 5, false, "", "", 22⟩, ⟨ "Kind_", 90, 6, false, "", "", 23⟩, ⟨ "Equal", 91, 7, false, "", "", 24⟩, ⟨ "GCData", 78, 8, false, "", "", 32⟩, ⟨ "Str", 92, 9, false, "", "", 40⟩, ⟨ "PtrToThis", 93, 10, false, "", "", 44⟩]) := rfl
theorem ty95 : (XK k).ty 95 = some ⟨ .struct #[⟨ "Size_", 12, 0, false, "", "", 0⟩, ⟨ "PtrBytes", 12, 1, false, "", "", 8⟩, ⟨ "Hash", 88, 2, false, "", "", 16⟩, ⟨ "TFlag", 89, 3, false, "", "", 20⟩, ⟨ "Align_", 5, 4, false, "", "", 21⟩, ⟨ "FieldAlign_", 5, 5, false, "", "", 22⟩, ⟨ "Kind_", 90, 6, false, "", "", 23⟩, ⟨ "Equal", 91, 7, false, "", "", 24⟩, ⟨ "GCData", 78, 8, false, "", "", 32⟩, ⟨ "Str", 92, 9, false, "", "", 40⟩, ⟨ "PtrToThis", 93, 10, false, "", "", 44⟩], 11, 48, .agg #[(.int .u64 0), (.int .u64 0), (.int .u32 0), (.int .u8 0), (.int .u8 0), (.int .u8 0), (.int .u8 0), .nilFunc, (.pointer none), (.int .i32 0), (.int .i32 0)]⟩ := rfl
theorem und95 : (XK k).und 95 = some (.struct #[⟨ "Size_", 12, 0, false, "", "", 0⟩, ⟨ "PtrBytes", 12, 1, false, "", "", 8⟩, ⟨ "Hash", 88, 2, false, "", "", 16⟩, ⟨ "TFlag", 89, 3, false, "", "", 20⟩, ⟨ "Align_", 5, 4, false, "", "", 21⟩, ⟨ "FieldAlign_", 5, 5, false, "", "", 22⟩, ⟨ "Kind_", 90, 6, false, "", "", 23⟩, ⟨ "Equal", 91, 7, false, "", "", 24⟩, ⟨ "GCData", 78, 8, false, "", "", 32⟩, ⟨ "Str", 92, 9, false, "", "", 40⟩, ⟨ "PtrToThis", 93, 10, false, "", "", 44⟩]) := rfl
theorem kd26 : kindsOf (XK k) 8 26 = some (kreps [.int .i64] 13) := by kernel_rfl
theorem kd32 : kindsOf (XK k) 8 32 = some ([.int .i64, .int .i64]) := by kernel_rfl
theorem kd33 : kindsOf (XK k) 8 33 = some ([.int .i64, .int .i64]) := by kernel_rfl
theorem kd44 : kindsOf (XK k) 8 44 = some (kreps [.int .i64] 6) := by kernel_rfl
theorem kd45 : kindsOf (XK k) 8 45 = some (([.int .i64]) ++ (kreps [.int .i64] 6) ++ ([.int .i64]) ++ ([.int .i64]) ++ ([.int .i64]) ++ ([.int .i64])) := by kernel_rfl
theorem kd46 : kindsOf (XK k) 8 46 = some (([.int .i64]) ++ (kreps [.int .i64] 6) ++ ([.int .i64]) ++ ([.int .i64]) ++ ([.int .i64]) ++ ([.int .i64])) := by kernel_rfl
theorem kd52 : kindsOf (XK k) 8 52 = some (kreps [.int .i32] 102) := by kernel_rfl
theorem kd53 : kindsOf (XK k) 8 53 = some (kreps [.int .i32] 168) := by kernel_rfl
theorem kd77 : kindsOf (XK k) 8 77 = some (kreps [.int .u8] 64) := by kernel_rfl
end
end Go.Proofs.YtndedkpcfjnecaaDoor.Ab
