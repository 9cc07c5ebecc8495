/- This seat's program with whatever is known; its types, one by one. Written by mktab.py. -/
import Derived.Test.YtndedkpcfjnecaaD3
import Derived.Test.YtndedkpcfjnecaaT
namespace Go.Proofs.Ytndedkpcfjnecaa.Ab
open Go.Proofs
set_option maxRecDepth 100000
noncomputable def XK (k : Nat → List Value → Option Value) : Prg := X0.knowing k
theorem soundK {k : Nat → List Value → Option Value} (hk : Knows Try.prog laid k) : SoundF (XK k) Try.prog := sound0.knowing hk
theorem laidW : laidWell gsize X0 = true := by kernel_rfl
section
variable {k : Nat → List Value → Option Value}
theorem ty1 : (XK k).ty 1 = some ⟨ .func #[] #[] false, 1, 8, .nilFunc⟩ := rfl
theorem und1 : (XK k).und 1 = some (.func #[] #[] false) := rfl
theorem ty2 : (XK k).ty 2 = some ⟨ .int .i64, 1, 8, .int .i64 0⟩ := rfl
theorem und2 : (XK k).und 2 = some (.int .i64) := rfl
theorem ty3 : (XK k).ty 3 = some ⟨ .int .i64, 1, 8, .int .i64 0⟩ := rfl
theorem und3 : (XK k).und 3 = some (.int .i64) := rfl
theorem ty4 : (XK k).ty 4 = some ⟨ .bool, 1, 1, .bool false⟩ := rfl
theorem und4 : (XK k).und 4 = some (.bool) := rfl
theorem ty5 : (XK k).ty 5 = some ⟨ .int .u8, 1, 1, .int .u8 0⟩ := rfl
theorem und5 : (XK k).und 5 = some (.int .u8) := rfl
theorem ty6 : (XK k).ty 6 = some ⟨ .int .u8, 1, 1, .int .u8 0⟩ := rfl
theorem und6 : (XK k).und 6 = some (.int .u8) := rfl
theorem ty7 : (XK k).ty 7 = some ⟨ .struct #[⟨ "x", 2, 0, false, "", "runtime", 0⟩, ⟨ "y", 3, 1, false, "", "runtime", 8⟩, ⟨ "signed", 4, 2, false, "", "runtime", 16⟩, ⟨ "code", 6, 3, false, "", "runtime", 17⟩], 4, 24, .agg #[(.int .i64 0), (.int .i64 0), (.bool false), (.int .u8 0)]⟩ := rfl
theorem und7 : (XK k).und 7 = some (.struct #[⟨ "x", 2, 0, false, "", "runtime", 0⟩, ⟨ "y", 3, 1, false, "", "runtime", 8⟩, ⟨ "signed", 4, 2, false, "", "runtime", 16⟩, ⟨ "code", 6, 3, false, "", "runtime", 17⟩]) := rfl
theorem ty8 : (XK k).ty 8 = some ⟨ .struct #[⟨ "x", 2, 0, false, "", "runtime", 0⟩, ⟨ "y", 3, 1, false, "", "runtime", 8⟩, ⟨ "signed", 4, 2, false, "", "runtime", 16⟩, ⟨ "code", 6, 3, false, "", "runtime", 17⟩], 4, 24, .agg #[(.int .i64 0), (.int .i64 0), (.bool false), (.int .u8 0)]⟩ := rfl
theorem und8 : (XK k).und 8 = some (.struct #[⟨ "x", 2, 0, false, "", "runtime", 0⟩, ⟨ "y", 3, 1, false, "", "runtime", 8⟩, ⟨ "signed", 4, 2, false, "", "runtime", 16⟩, ⟨ "code", 6, 3, false, "", "runtime", 17⟩]) := rfl
theorem ty9 : (XK k).ty 9 = some ⟨ .string, 1, 16, .string ⟨#[]⟩⟩ := rfl
theorem und9 : (XK k).und 9 = some (.string) := rfl
theorem ty10 : (XK k).ty 10 = some ⟨ .string, 1, 16, .string ⟨#[]⟩⟩ := rfl
theorem und10 : (XK k).und 10 = some (.string) := rfl
theorem ty11 : (XK k).ty 11 = some ⟨ .string, 1, 16, .string ⟨#[]⟩⟩ := rfl
theorem und11 : (XK k).und 11 = some (.string) := rfl
theorem ty12 : (XK k).ty 12 = some ⟨ .int .u64, 1, 8, .int .u64 0⟩ := rfl
theorem und12 : (XK k).und 12 = some (.int .u64) := rfl
theorem ty13 : (XK k).ty 13 = some ⟨ .struct #[⟨ "msg", 9, 0, false, "", "runtime", 0⟩, ⟨ "addr", 12, 1, false, "", "runtime", 16⟩], 2, 24, .agg #[(.string ⟨#[]⟩), (.int .u64 0)]⟩ := rfl
theorem und13 : (XK k).und 13 = some (.struct #[⟨ "msg", 9, 0, false, "", "runtime", 0⟩, ⟨ "addr", 12, 1, false, "", "runtime", 16⟩]) := rfl
theorem ty14 : (XK k).ty 14 = some ⟨ .struct #[⟨ "msg", 9, 0, false, "", "runtime", 0⟩, ⟨ "addr", 12, 1, false, "", "runtime", 16⟩], 2, 24, .agg #[(.string ⟨#[]⟩), (.int .u64 0)]⟩ := rfl
theorem und14 : (XK k).und 14 = some (.struct #[⟨ "msg", 9, 0, false, "", "runtime", 0⟩, ⟨ "addr", 12, 1, false, "", "runtime", 16⟩]) := rfl
theorem ty15 : (XK k).ty 15 = some ⟨ .pointer 167, 1, 8, .pointer none⟩ := rfl
theorem und15 : (XK k).und 15 = some (.pointer 167) := rfl
theorem ty16 : (XK k).ty 16 = some ⟨ .pointer 170, 1, 8, .pointer none⟩ := rfl
theorem und16 : (XK k).und 16 = some (.pointer 170) := rfl
theorem ty17 : (XK k).ty 17 = some ⟨ .pointer 177, 1, 8, .pointer none⟩ := rfl
theorem und17 : (XK k).und 17 = some (.pointer 177) := rfl
theorem ty18 : (XK k).ty 18 = some ⟨ .struct #[⟨ "typ", 17, 0, false, "", "internal/runtime/maps", 0⟩], 1, 8, .agg #[(.pointer none)]⟩ := rfl
theorem und18 : (XK k).und 18 = some (.struct #[⟨ "typ", 17, 0, false, "", "internal/runtime/maps", 0⟩]) := rfl
theorem ty19 : (XK k).ty 19 = some ⟨ .struct #[⟨ "typ", 17, 0, false, "", "internal/runtime/maps", 0⟩], 1, 8, .agg #[(.pointer none)]⟩ := rfl
theorem und19 : (XK k).und 19 = some (.struct #[⟨ "typ", 17, 0, false, "", "internal/runtime/maps", 0⟩]) := rfl
theorem ty21 : (XK k).ty 21 = some ⟨ .int .i32, 1, 4, .int .i32 0⟩ := rfl
theorem und21 : (XK k).und 21 = some (.int .i32) := rfl
theorem ty22 : (XK k).ty 22 = some ⟨ .slice 29, 1, 24, .slice none 0 0⟩ := rfl
theorem und22 : (XK k).und 22 = some (.slice 29) := rfl
theorem ty23 : (XK k).ty 23 = some ⟨ .func #[] #[4] false, 1, 8, .nilFunc⟩ := rfl
theorem und23 : (XK k).und 23 = some (.func #[] #[4] false) := rfl
theorem ty24 : (XK k).ty 24 = some ⟨ .slice 27, 1, 24, .slice none 0 0⟩ := rfl
theorem und24 : (XK k).und 24 = some (.slice 27) := rfl
theorem ty25 : (XK k).ty 25 = some ⟨ .func #[22] #[24] false, 1, 8, .nilFunc⟩ := rfl
theorem und25 : (XK k).und 25 = some (.func #[22] #[24] false) := rfl
theorem ty26 : (XK k).ty 26 = some ⟨ .struct #[⟨ "L", 3, 0, false, "", "", 0⟩, ⟨ "From", 3, 1, false, "", "", 8⟩, ⟨ "To", 3, 2, false, "", "", 16⟩], 3, 24, .agg #[(.int .i64 0), (.int .i64 0), (.int .i64 0)]⟩ := rfl
theorem und26 : (XK k).und 26 = some (.struct #[⟨ "L", 3, 0, false, "", "", 0⟩, ⟨ "From", 3, 1, false, "", "", 8⟩, ⟨ "To", 3, 2, false, "", "", 16⟩]) := rfl
theorem ty27 : (XK k).ty 27 = some ⟨ .struct #[⟨ "L", 3, 0, false, "", "", 0⟩, ⟨ "From", 3, 1, false, "", "", 8⟩, ⟨ "To", 3, 2, false, "", "", 16⟩], 3, 24, .agg #[(.int .i64 0), (.int .i64 0), (.int .i64 0)]⟩ := rfl
theorem und27 : (XK k).und 27 = some (.struct #[⟨ "L", 3, 0, false, "", "", 0⟩, ⟨ "From", 3, 1, false, "", "", 8⟩, ⟨ "To", 3, 2, false, "", "", 16⟩]) := rfl
theorem ty28 : (XK k).ty 28 = some ⟨ .struct #[⟨ "V", 3, 0, false, "", "", 0⟩, ⟨ "L", 3, 1, false, "", "", 8⟩], 2, 16, .agg #[(.int .i64 0), (.int .i64 0)]⟩ := rfl
theorem und28 : (XK k).und 28 = some (.struct #[⟨ "V", 3, 0, false, "", "", 0⟩, ⟨ "L", 3, 1, false, "", "", 8⟩]) := rfl
theorem ty29 : (XK k).ty 29 = some ⟨ .struct #[⟨ "V", 3, 0, false, "", "", 0⟩, ⟨ "L", 3, 1, false, "", "", 8⟩], 2, 16, .agg #[(.int .i64 0), (.int .i64 0)]⟩ := rfl
theorem und29 : (XK k).und 29 = some (.struct #[⟨ "V", 3, 0, false, "", "", 0⟩, ⟨ "L", 3, 1, false, "", "", 8⟩]) := rfl
theorem ty30 : (XK k).ty 30 = some ⟨ .func #[22] #[4] false, 1, 8, .nilFunc⟩ := rfl
theorem und30 : (XK k).und 30 = some (.func #[22] #[4] false) := rfl
theorem ty31 : (XK k).ty 31 = some ⟨ .slice 40, 1, 24, .slice none 0 0⟩ := rfl
theorem und31 : (XK k).und 31 = some (.slice 40) := rfl
theorem ty32 : (XK k).ty 32 = some ⟨ .pointer 94, 1, 8, .pointer none⟩ := rfl
theorem und32 : (XK k).und 32 = some (.pointer 94) := rfl
theorem ty33 : (XK k).ty 33 = some ⟨ .int .i64, 1, 8, .int .i64 0⟩ := rfl
theorem und33 : (XK k).und 33 = some (.int .i64) := rfl
theorem ty35 : (XK k).ty 35 = some ⟨ .func #[3] #[32, 33] false, 1, 8, .nilFunc⟩ := rfl
theorem und35 : (XK k).und 35 = some (.func #[3] #[32, 33] false) := rfl
theorem ty36 : (XK k).ty 36 = some ⟨ .slice 22, 1, 24, .slice none 0 0⟩ := rfl
theorem und36 : (XK k).und 36 = some (.slice 22) := rfl
theorem ty37 : (XK k).ty 37 = some ⟨ .struct #[⟨ "L", 36, 0, false, "", "", 0⟩, ⟨ "Hand", 3, 1, false, "", "", 24⟩], 2, 32, .agg #[(.slice none 0 0), (.int .i64 0)]⟩ := rfl
theorem und37 : (XK k).und 37 = some (.struct #[⟨ "L", 36, 0, false, "", "", 0⟩, ⟨ "Hand", 3, 1, false, "", "", 24⟩]) := rfl
theorem ty38 : (XK k).ty 38 = some ⟨ .struct #[⟨ "L", 36, 0, false, "", "", 0⟩, ⟨ "Hand", 3, 1, false, "", "", 24⟩], 2, 32, .agg #[(.slice none 0 0), (.int .i64 0)]⟩ := rfl
theorem und38 : (XK k).und 38 = some (.struct #[⟨ "L", 36, 0, false, "", "", 0⟩, ⟨ "Hand", 3, 1, false, "", "", 24⟩]) := rfl
theorem ty39 : (XK k).ty 39 = some ⟨ .struct #[⟨ "How", 3, 0, false, "", "", 0⟩, ⟨ "S", 22, 1, false, "", "", 8⟩], 2, 32, .agg #[(.int .i64 0), (.slice none 0 0)]⟩ := rfl
theorem und39 : (XK k).und 39 = some (.struct #[⟨ "How", 3, 0, false, "", "", 0⟩, ⟨ "S", 22, 1, false, "", "", 8⟩]) := rfl
theorem ty40 : (XK k).ty 40 = some ⟨ .struct #[⟨ "How", 3, 0, false, "", "", 0⟩, ⟨ "S", 22, 1, false, "", "", 8⟩], 2, 32, .agg #[(.int .i64 0), (.slice none 0 0)]⟩ := rfl
theorem und40 : (XK k).und 40 = some (.struct #[⟨ "How", 3, 0, false, "", "", 0⟩, ⟨ "S", 22, 1, false, "", "", 8⟩]) := rfl
theorem ty41 : (XK k).ty 41 = some ⟨ .func #[] #[38] false, 1, 8, .nilFunc⟩ := rfl
theorem und41 : (XK k).und 41 = some (.func #[] #[38] false) := rfl
theorem ty42 : (XK k).ty 42 = some ⟨ .func #[22, 3] #[33] false, 1, 8, .nilFunc⟩ := rfl
theorem und42 : (XK k).und 42 = some (.func #[22, 3] #[33] false) := rfl
theorem ty43 : (XK k).ty 43 = some ⟨ .func #[22, 3, 3] #[38] false, 1, 8, .nilFunc⟩ := rfl
theorem und43 : (XK k).und 43 = some (.func #[22, 3, 3] #[38] false) := rfl
theorem ty44 : (XK k).ty 44 = some ⟨ .func #[] #[3] false, 1, 8, .nilFunc⟩ := rfl
theorem und44 : (XK k).und 44 = some (.func #[] #[3] false) := rfl
theorem ty45 : (XK k).ty 45 = some ⟨ .func #[22, 22] #[4] false, 1, 8, .nilFunc⟩ := rfl
theorem und45 : (XK k).und 45 = some (.func #[22, 22] #[4] false) := rfl
theorem ty46 : (XK k).ty 46 = some ⟨ .func #[] #[22] false, 1, 8, .nilFunc⟩ := rfl
theorem und46 : (XK k).und 46 = some (.func #[] #[22] false) := rfl
theorem ty47 : (XK k).ty 47 = some ⟨ .func #[36, 36] #[4] false, 1, 8, .nilFunc⟩ := rfl
theorem und47 : (XK k).und 47 = some (.func #[36, 36] #[4] false) := rfl
theorem ty48 : (XK k).ty 48 = some ⟨ .func #[] #[36] false, 1, 8, .nilFunc⟩ := rfl
theorem und48 : (XK k).und 48 = some (.func #[] #[36] false) := rfl
theorem ty49 : (XK k).ty 49 = some ⟨ .func #[3, 31] #[4] false, 1, 8, .nilFunc⟩ := rfl
theorem und49 : (XK k).und 49 = some (.func #[3, 31] #[4] false) := rfl
theorem ty50 : (XK k).ty 50 = some ⟨ .slice 5, 1, 24, .slice none 0 0⟩ := rfl
theorem und50 : (XK k).und 50 = some (.slice 5) := rfl
theorem ty51 : (XK k).ty 51 = some ⟨ .func #[36, 50, 5] #[4] false, 1, 8, .nilFunc⟩ := rfl
theorem und51 : (XK k).und 51 = some (.func #[36, 50, 5] #[4] false) := rfl
theorem ty52 : (XK k).ty 52 = some ⟨ .func #[3] #[9] false, 1, 8, .nilFunc⟩ := rfl
theorem und52 : (XK k).und 52 = some (.func #[3] #[9] false) := rfl
theorem ty54 : (XK k).ty 54 = some ⟨ .func #[9] #[3, 33] false, 1, 8, .nilFunc⟩ := rfl
theorem und54 : (XK k).und 54 = some (.func #[9] #[3, 33] false) := rfl
theorem ty55 : (XK k).ty 55 = some ⟨ .func #[3, 9] #[4] false, 1, 8, .nilFunc⟩ := rfl
theorem und55 : (XK k).und 55 = some (.func #[3, 9] #[4] false) := rfl
theorem ty56 : (XK k).ty 56 = some ⟨ .func #[3, 3] #[9] false, 1, 8, .nilFunc⟩ := rfl
theorem und56 : (XK k).und 56 = some (.func #[3, 3] #[9] false) := rfl
theorem ty57 : (XK k).ty 57 = some ⟨ .func #[3, 3] #[3] false, 1, 8, .nilFunc⟩ := rfl
theorem und57 : (XK k).und 57 = some (.func #[3, 3] #[3] false) := rfl
theorem ty58 : (XK k).ty 58 = some ⟨ .func #[9] #[3] false, 1, 8, .nilFunc⟩ := rfl
theorem und58 : (XK k).und 58 = some (.func #[9] #[3] false) := rfl
theorem ty59 : (XK k).ty 59 = some ⟨ .func #[3, 3, 9] #[4] false, 1, 8, .nilFunc⟩ := rfl
theorem und59 : (XK k).und 59 = some (.func #[3, 3, 9] #[4] false) := rfl
theorem ty60 : (XK k).ty 60 = some ⟨ .slice 70, 1, 24, .slice none 0 0⟩ := rfl
theorem und60 : (XK k).und 60 = some (.slice 70) := rfl
theorem ty61 : (XK k).ty 61 = some ⟨ .pointer 112, 1, 8, .pointer none⟩ := rfl
theorem und61 : (XK k).und 61 = some (.pointer 112) := rfl
theorem ty63 : (XK k).ty 63 = some ⟨ .func #[3] #[61, 33] false, 1, 8, .nilFunc⟩ := rfl
theorem und63 : (XK k).und 63 = some (.func #[3] #[61, 33] false) := rfl
theorem ty64 : (XK k).ty 64 = some ⟨ .struct #[⟨ "S", 22, 0, false, "", "", 0⟩, ⟨ "At", 3, 1, false, "", "", 24⟩], 2, 32, .agg #[(.slice none 0 0), (.int .i64 0)]⟩ := rfl
theorem und64 : (XK k).und 64 = some (.struct #[⟨ "S", 22, 0, false, "", "", 0⟩, ⟨ "At", 3, 1, false, "", "", 24⟩]) := rfl
theorem ty65 : (XK k).ty 65 = some ⟨ .struct #[⟨ "S", 22, 0, false, "", "", 0⟩, ⟨ "At", 3, 1, false, "", "", 24⟩], 2, 32, .agg #[(.slice none 0 0), (.int .i64 0)]⟩ := rfl
theorem und65 : (XK k).und 65 = some (.struct #[⟨ "S", 22, 0, false, "", "", 0⟩, ⟨ "At", 3, 1, false, "", "", 24⟩]) := rfl
theorem ty66 : (XK k).ty 66 = some ⟨ .slice 65, 1, 24, .slice none 0 0⟩ := rfl
theorem und66 : (XK k).und 66 = some (.slice 65) := rfl
theorem ty67 : (XK k).ty 67 = some ⟨ .struct #[⟨ "Now", 65, 0, false, "", "", 0⟩, ⟨ "Past", 66, 2, false, "", "", 32⟩, ⟨ "Later", 66, 3, false, "", "", 56⟩], 4, 80, .agg #[(.slice none 0 0), (.int .i64 0), (.slice none 0 0), (.slice none 0 0)]⟩ := rfl
theorem und67 : (XK k).und 67 = some (.struct #[⟨ "Now", 65, 0, false, "", "", 0⟩, ⟨ "Past", 66, 2, false, "", "", 32⟩, ⟨ "Later", 66, 3, false, "", "", 56⟩]) := rfl
theorem ty68 : (XK k).ty 68 = some ⟨ .struct #[⟨ "Now", 65, 0, false, "", "", 0⟩, ⟨ "Past", 66, 2, false, "", "", 32⟩, ⟨ "Later", 66, 3, false, "", "", 56⟩], 4, 80, .agg #[(.slice none 0 0), (.int .i64 0), (.slice none 0 0), (.slice none 0 0)]⟩ := rfl
theorem und68 : (XK k).und 68 = some (.struct #[⟨ "Now", 65, 0, false, "", "", 0⟩, ⟨ "Past", 66, 2, false, "", "", 32⟩, ⟨ "Later", 66, 3, false, "", "", 56⟩]) := rfl
theorem ty69 : (XK k).ty 69 = some ⟨ .struct #[⟨ "Kind", 3, 0, false, "", "", 0⟩, ⟨ "X", 65, 1, false, "", "", 8⟩, ⟨ "Join", 4, 3, false, "", "", 40⟩], 4, 48, .agg #[(.int .i64 0), (.slice none 0 0), (.int .i64 0), (.bool false)]⟩ := rfl
theorem und69 : (XK k).und 69 = some (.struct #[⟨ "Kind", 3, 0, false, "", "", 0⟩, ⟨ "X", 65, 1, false, "", "", 8⟩, ⟨ "Join", 4, 3, false, "", "", 40⟩]) := rfl
theorem ty70 : (XK k).ty 70 = some ⟨ .struct #[⟨ "Kind", 3, 0, false, "", "", 0⟩, ⟨ "X", 65, 1, false, "", "", 8⟩, ⟨ "Join", 4, 3, false, "", "", 40⟩], 4, 48, .agg #[(.int .i64 0), (.slice none 0 0), (.int .i64 0), (.bool false)]⟩ := rfl
theorem und70 : (XK k).und 70 = some (.struct #[⟨ "Kind", 3, 0, false, "", "", 0⟩, ⟨ "X", 65, 1, false, "", "", 8⟩, ⟨ "Join", 4, 3, false, "", "", 40⟩]) := rfl
theorem ty72 : (XK k).ty 72 = some ⟨ .func #[61, 68, 70, 3] #[68, 4] false, 1, 8, .nilFunc⟩ := rfl
theorem und72 : (XK k).und 72 = some (.func #[61, 68, 70, 3] #[68, 4] false) := rfl
theorem ty74 : (XK k).ty 74 = some ⟨ .func #[] #[3, 3] false, 1, 8, .nilFunc⟩ := rfl
theorem und74 : (XK k).und 74 = some (.func #[] #[3, 3] false) := rfl
theorem ty75 : (XK k).ty 75 = some ⟨ .func #[65, 65] #[4] false, 1, 8, .nilFunc⟩ := rfl
theorem und75 : (XK k).und 75 = some (.func #[65, 65] #[4] false) := rfl
theorem ty76 : (XK k).ty 76 = some ⟨ .func #[] #[65] false, 1, 8, .nilFunc⟩ := rfl
theorem und76 : (XK k).und 76 = some (.func #[] #[65] false) := rfl
theorem ty77 : (XK k).ty 77 = some ⟨ .func #[3, 60] #[4] false, 1, 8, .nilFunc⟩ := rfl
theorem und77 : (XK k).und 77 = some (.func #[3, 60] #[4] false) := rfl
theorem ty78 : (XK k).ty 78 = some ⟨ .func #[60, 5] #[4] false, 1, 8, .nilFunc⟩ := rfl
theorem und78 : (XK k).und 78 = some (.func #[60, 5] #[4] false) := rfl
theorem ty79 : (XK k).ty 79 = some ⟨ .pointer 129, 1, 8, .pointer none⟩ := rfl
theorem und79 : (XK k).und 79 = some (.pointer 129) := rfl
theorem ty81 : (XK k).ty 81 = some ⟨ .func #[3, 3] #[79, 33] false, 1, 8, .nilFunc⟩ := rfl
theorem und81 : (XK k).und 81 = some (.func #[3, 3] #[79, 33] false) := rfl
theorem ty82 : (XK k).ty 82 = some ⟨ .func #[22] #[33] false, 1, 8, .nilFunc⟩ := rfl
theorem und82 : (XK k).und 82 = some (.func #[22] #[33] false) := rfl
theorem ty83 : (XK k).ty 83 = some ⟨ .func #[22, 3] #[22] false, 1, 8, .nilFunc⟩ := rfl
theorem und83 : (XK k).und 83 = some (.func #[22, 3] #[22] false) := rfl
theorem ty84 : (XK k).ty 84 = some ⟨ .func #[85, 85] #[4] false, 1, 8, .nilFunc⟩ := rfl
theorem und84 : (XK k).und 84 = some (.func #[85, 85] #[4] false) := rfl
theorem ty85 : (XK k).ty 85 = some ⟨ .slice 3, 1, 24, .slice none 0 0⟩ := rfl
theorem und85 : (XK k).und 85 = some (.slice 3) := rfl
theorem ty86 : (XK k).ty 86 = some ⟨ .func #[22] #[85] false, 1, 8, .nilFunc⟩ := rfl
theorem und86 : (XK k).und 86 = some (.func #[22] #[85] false) := rfl
theorem ty87 : (XK k).ty 87 = some ⟨ .func #[36, 5, 5] #[4] false, 1, 8, .nilFunc⟩ := rfl
theorem und87 : (XK k).und 87 = some (.func #[36, 5, 5] #[4] false) := rfl
theorem ty88 : (XK k).ty 88 = some ⟨ .func #[3, 9] #[22] false, 1, 8, .nilFunc⟩ := rfl
theorem und88 : (XK k).und 88 = some (.func #[3, 9] #[22] false) := rfl
theorem ty89 : (XK k).ty 89 = some ⟨ .func #[22] #[9] false, 1, 8, .nilFunc⟩ := rfl
theorem und89 : (XK k).und 89 = some (.func #[22] #[9] false) := rfl
theorem ty90 : (XK k).ty 90 = some ⟨ .func #[22, 22, 3] #[3] false, 1, 8, .nilFunc⟩ := rfl
theorem und90 : (XK k).und 90 = some (.func #[22, 22, 3] #[3] false) := rfl
theorem ty91 : (XK k).ty 91 = some ⟨ .func #[29] #[4] false, 1, 8, .nilFunc⟩ := rfl
theorem und91 : (XK k).und 91 = some (.func #[29] #[4] false) := rfl
theorem ty92 : (XK k).ty 92 = some ⟨ .map 3 22, 1, 8, .map none⟩ := rfl
theorem und92 : (XK k).und 92 = some (.map 3 22) := rfl
theorem ty93 : (XK k).ty 93 = some ⟨ .struct #[⟨ "texts", 92, 0, false, "", "dactyl/kill", 0⟩, ⟨ "from", 3, 1, false, "", "dactyl/kill", 8⟩, ⟨ "to", 3, 2, false, "", "dactyl/kill", 16⟩, ⟨ "hand", 3, 3, false, "", "dactyl/kill", 24⟩, ⟨ "most", 3, 4, false, "", "dactyl/kill", 32⟩], 5, 40, .agg #[(.map none), (.int .i64 0), (.int .i64 0), (.int .i64 0), (.int .i64 0)]⟩ := rfl
theorem und93 : (XK k).und 93 = some (.struct #[⟨ "texts", 92, 0, false, "", "dactyl/kill", 0⟩, ⟨ "from", 3, 1, false, "", "dactyl/kill", 8⟩, ⟨ "to", 3, 2, false, "", "dactyl/kill", 16⟩, ⟨ "hand", 3, 3, false, "", "dactyl/kill", 24⟩, ⟨ "most", 3, 4, false, "", "dactyl/kill", 32⟩]) := rfl
theorem ty94 : (XK k).ty 94 = some ⟨ .struct #[⟨ "texts", 92, 0, false, "", "dactyl/kill", 0⟩, ⟨ "from", 3, 1, false, "", "dactyl/kill", 8⟩, ⟨ "to", 3, 2, false, "", "dactyl/kill", 16⟩, ⟨ "hand", 3, 3, false, "", "dactyl/kill", 24⟩, ⟨ "most", 3, 4, false, "", "dactyl/kill", 32⟩], 5, 40, .agg #[(.map none), (.int .i64 0), (.int .i64 0), (.int .i64 0), (.int .i64 0)]⟩ := rfl
theorem und94 : (XK k).und 94 = some (.struct #[⟨ "texts", 92, 0, false, "", "dactyl/kill", 0⟩, ⟨ "from", 3, 1, false, "", "dactyl/kill", 8⟩, ⟨ "to", 3, 2, false, "", "dactyl/kill", 16⟩, ⟨ "hand", 3, 3, false, "", "dactyl/kill", 24⟩, ⟨ "most", 3, 4, false, "", "dactyl/kill", 32⟩]) := rfl
theorem ty95 : (XK k).ty 95 = some ⟨ .func #[36] #[22] true, 1, 8, .nilFunc⟩ := rfl
theorem und95 : (XK k).und 95 = some (.func #[36] #[22] true) := rfl
theorem ty96 : (XK k).ty 96 = some ⟨ .func #[22, 22] #[22] false, 1, 8, .nilFunc⟩ := rfl
theorem und96 : (XK k).und 96 = some (.func #[22, 22] #[22] false) := rfl
theorem ty97 : (XK k).ty 97 = some ⟨ .func #[3] #[22] false, 1, 8, .nilFunc⟩ := rfl
theorem und97 : (XK k).und 97 = some (.func #[3] #[22] false) := rfl
theorem ty98 : (XK k).ty 98 = some ⟨ .func #[32] #[97] false, 1, 8, .nilFunc⟩ := rfl
theorem und98 : (XK k).und 98 = some (.func #[32] #[97] false) := rfl
theorem ty99 : (XK k).ty 99 = some ⟨ .func #[101] #[9] false, 1, 8, .nilFunc⟩ := rfl
theorem und99 : (XK k).und 99 = some (.func #[101] #[9] false) := rfl
theorem ty100 : (XK k).ty 100 = some ⟨ .func #[101] #[99] false, 1, 8, .nilFunc⟩ := rfl
theorem und100 : (XK k).und 100 = some (.func #[101] #[99] false) := rfl
theorem ty101 : (XK k).ty 101 = some ⟨ .int .u64, 1, 8, .int .u64 0⟩ := rfl
theorem und101 : (XK k).und 101 = some (.int .u64) := rfl
theorem ty103 : (XK k).ty 103 = some ⟨ .func #[9, 9] #[9, 4] false, 1, 8, .nilFunc⟩ := rfl
theorem und103 : (XK k).und 103 = some (.func #[9, 9] #[9, 4] false) := rfl
theorem ty105 : (XK k).ty 105 = some ⟨ .func #[9] #[101, 4] false, 1, 8, .nilFunc⟩ := rfl
theorem und105 : (XK k).und 105 = some (.func #[9] #[101, 4] false) := rfl
theorem ty106 : (XK k).ty 106 = some ⟨ .func #[101, 101] #[105] false, 1, 8, .nilFunc⟩ := rfl
theorem und106 : (XK k).und 106 = some (.func #[101, 101] #[105] false) := rfl
theorem ty107 : (XK k).ty 107 = some ⟨ .func #[9, 3] #[9] false, 1, 8, .nilFunc⟩ := rfl
theorem und107 : (XK k).und 107 = some (.func #[9, 3] #[9] false) := rfl
theorem ty108 : (XK k).ty 108 = some ⟨ .func #[5] #[3] false, 1, 8, .nilFunc⟩ := rfl
theorem und108 : (XK k).und 108 = some (.func #[5] #[3] false) := rfl
theorem ty109 : (XK k).ty 109 = some ⟨ .func #[65, 4] #[33] false, 1, 8, .nilFunc⟩ := rfl
theorem und109 : (XK k).und 109 = some (.func #[65, 4] #[33] false) := rfl
theorem ty110 : (XK k).ty 110 = some ⟨ .slice 118, 1, 24, .slice none 0 0⟩ := rfl
theorem und110 : (XK k).und 110 = some (.slice 118) := rfl
theorem ty111 : (XK k).ty 111 = some ⟨ .struct #[⟨ "now", 65, 0, false, "", "dactyl/undo", 0⟩, ⟨ "were", 110, 2, false, "", "dactyl/undo", 32⟩, ⟨ "taken", 110, 3, false, "", "dactyl/undo", 56⟩, ⟨ "most", 3, 4, false, "", "dactyl/undo", 80⟩], 5, 88, .agg #[(.slice none 0 0), (.int .i64 0), (.slice none 0 0), (.slice none 0 0), (.int .i64 0)]⟩ := rfl
theorem und111 : (XK k).und 111 = some (.struct #[⟨ "now", 65, 0, false, "", "dactyl/undo", 0⟩, ⟨ "were", 110, 2, false, "", "dactyl/undo", 32⟩, ⟨ "taken", 110, 3, false, "", "dactyl/undo", 56⟩, ⟨ "most", 3, 4, false, "", "dactyl/undo", 80⟩]) := rfl
theorem ty112 : (XK k).ty 112 = some ⟨ .struct #[⟨ "now", 65, 0, false, "", "dactyl/undo", 0⟩, ⟨ "were", 110, 2, false, "", "dactyl/undo", 32⟩, ⟨ "taken", 110, 3, false, "", "dactyl/undo", 56⟩, ⟨ "most", 3, 4, false, "", "dactyl/undo", 80⟩], 5, 88, .agg #[(.slice none 0 0), (.int .i64 0), (.slice none 0 0), (.slice none 0 0), (.int .i64 0)]⟩ := rfl
theorem und112 : (XK k).und 112 = some (.struct #[⟨ "now", 65, 0, false, "", "dactyl/undo", 0⟩, ⟨ "were", 110, 2, false, "", "dactyl/undo", 32⟩, ⟨ "taken", 110, 3, false, "", "dactyl/undo", 56⟩, ⟨ "most", 3, 4, false, "", "dactyl/undo", 80⟩]) := rfl
theorem ty113 : (XK k).ty 113 = some ⟨ .func #[65] #[4] false, 1, 8, .nilFunc⟩ := rfl
theorem und113 : (XK k).und 113 = some (.func #[65] #[4] false) := rfl
theorem ty114 : (XK k).ty 114 = some ⟨ .func #[65, 4, 3] #[68] false, 1, 8, .nilFunc⟩ := rfl
theorem und114 : (XK k).und 114 = some (.func #[65, 4, 3] #[68] false) := rfl
theorem ty115 : (XK k).ty 115 = some ⟨ .func #[] #[68, 4] false, 1, 8, .nilFunc⟩ := rfl
theorem und115 : (XK k).und 115 = some (.func #[] #[68, 4] false) := rfl
theorem ty116 : (XK k).ty 116 = some ⟨ .func #[22] #[22] false, 1, 8, .nilFunc⟩ := rfl
theorem und116 : (XK k).und 116 = some (.func #[22] #[22] false) := rfl
theorem ty117 : (XK k).ty 117 = some ⟨ .struct #[⟨ "place", 3, 0, false, "", "dactyl/undo", 0⟩, ⟨ "gone", 22, 1, false, "", "dactyl/undo", 8⟩, ⟨ "come", 22, 2, false, "", "dactyl/undo", 32⟩, ⟨ "at", 3, 3, false, "", "dactyl/undo", 56⟩], 4, 64, .agg #[(.int .i64 0), (.slice none 0 0), (.slice none 0 0), (.int .i64 0)]⟩ := rfl
theorem und117 : (XK k).und 117 = some (.struct #[⟨ "place", 3, 0, false, "", "dactyl/undo", 0⟩, ⟨ "gone", 22, 1, false, "", "dactyl/undo", 8⟩, ⟨ "come", 22, 2, false, "", "dactyl/undo", 32⟩, ⟨ "at", 3, 3, false, "", "dactyl/undo", 56⟩]) := rfl
theorem ty118 : (XK k).ty 118 = some ⟨ .struct #[⟨ "place", 3, 0, false, "", "dactyl/undo", 0⟩, ⟨ "gone", 22, 1, false, "", "dactyl/undo", 8⟩, ⟨ "come", 22, 2, false, "", "dactyl/undo", 32⟩, ⟨ "at", 3, 3, false, "", "dactyl/undo", 56⟩], 4, 64, .agg #[(.int .i64 0), (.slice none 0 0), (.slice none 0 0), (.int .i64 0)]⟩ := rfl
theorem und118 : (XK k).und 118 = some (.struct #[⟨ "place", 3, 0, false, "", "dactyl/undo", 0⟩, ⟨ "gone", 22, 1, false, "", "dactyl/undo", 8⟩, ⟨ "come", 22, 2, false, "", "dactyl/undo", 32⟩, ⟨ "at", 3, 3, false, "", "dactyl/undo", 56⟩]) := rfl
theorem ty119 : (XK k).ty 119 = some ⟨ .func #[3, 3, 22, 3] #[] false, 1, 8, .nilFunc⟩ := rfl
theorem und119 : (XK k).und 119 = some (.func #[3, 3, 22, 3] #[] false) := rfl
theorem ty120 : (XK k).ty 120 = some ⟨ .func #[121] #[119] false, 1, 8, .nilFunc⟩ := rfl
theorem und120 : (XK k).und 120 = some (.func #[121] #[119] false) := rfl
theorem ty121 : (XK k).ty 121 = some ⟨ .pointer 65, 1, 8, .pointer none⟩ := rfl
theorem und121 : (XK k).und 121 = some (.pointer 65) := rfl
theorem ty122 : (XK k).ty 122 = some ⟨ .func #[110, 3, 3] #[110] false, 1, 8, .nilFunc⟩ := rfl
theorem und122 : (XK k).und 122 = some (.func #[110, 3, 3] #[110] false) := rfl
theorem ty124 : (XK k).ty 124 = some ⟨ .func #[22] #[22, 4] false, 1, 8, .nilFunc⟩ := rfl
theorem und124 : (XK k).und 124 = some (.func #[22] #[22, 4] false) := rfl
theorem ty125 : (XK k).ty 125 = some ⟨ .func #[22, 3] #[3] false, 1, 8, .nilFunc⟩ := rfl
theorem und125 : (XK k).und 125 = some (.func #[22, 3] #[3] false) := rfl
theorem ty126 : (XK k).ty 126 = some ⟨ .func #[] #[22, 4] false, 1, 8, .nilFunc⟩ := rfl
theorem und126 : (XK k).und 126 = some (.func #[] #[22, 4] false) := rfl
theorem ty127 : (XK k).ty 127 = some ⟨ .func #[36, 3, 3] #[79, 33] false, 1, 8, .nilFunc⟩ := rfl
theorem und127 : (XK k).und 127 = some (.func #[36, 3, 3] #[79, 33] false) := rfl
theorem ty128 : (XK k).ty 128 = some ⟨ .struct #[⟨ "entries", 36, 0, false, "", "dactyl/hist", 0⟩, ⟨ "hand", 3, 1, false, "", "dactyl/hist", 24⟩, ⟨ "typed", 22, 2, false, "", "dactyl/hist", 32⟩, ⟨ "most", 3, 3, false, "", "dactyl/hist", 56⟩, ⟨ "long", 3, 4, false, "", "dactyl/hist", 64⟩], 5, 72, .agg #[(.slice none 0 0), (.int .i64 0), (.slice none 0 0), (.int .i64 0), (.int .i64 0)]⟩ := rfl
theorem und128 : (XK k).und 128 = some (.struct #[⟨ "entries", 36, 0, false, "", "dactyl/hist", 0⟩, ⟨ "hand", 3, 1, false, "", "dactyl/hist", 24⟩, ⟨ "typed", 22, 2, false, "", "dactyl/hist", 32⟩, ⟨ "most", 3, 3, false, "", "dactyl/hist", 56⟩, ⟨ "long", 3, 4, false, "", "dactyl/hist", 64⟩]) := rfl
theorem ty129 : (XK k).ty 129 = some ⟨ .struct #[⟨ "entries", 36, 0, false, "", "dactyl/hist", 0⟩, ⟨ "hand", 3, 1, false, "", "dactyl/hist", 24⟩, ⟨ "typed", 22, 2, false, "", "dactyl/hist", 32⟩, ⟨ "most", 3, 3, false, "", "dactyl/hist", 56⟩, ⟨ "long", 3, 4, false, "", "dactyl/hist", 64⟩], 5, 72, .agg #[(.slice none 0 0), (.int .i64 0), (.slice none 0 0), (.int .i64 0), (.int .i64 0)]⟩ := rfl
theorem und129 : (XK k).und 129 = some (.struct #[⟨ "entries", 36, 0, false, "", "dactyl/hist", 0⟩, ⟨ "hand", 3, 1, false, "", "dactyl/hist", 24⟩, ⟨ "typed", 22, 2, false, "", "dactyl/hist", 32⟩, ⟨ "most", 3, 3, false, "", "dactyl/hist", 56⟩, ⟨ "long", 3, 4, false, "", "dactyl/hist", 64⟩]) := rfl
theorem ty130 : (XK k).ty 130 = some ⟨ .func #[22] #[30] false, 1, 8, .nilFunc⟩ := rfl
theorem und130 : (XK k).und 130 = some (.func #[22] #[30] false) := rfl
theorem ty131 : (XK k).ty 131 = some ⟨ .func #[36, 30] #[36] false, 1, 8, .nilFunc⟩ := rfl
theorem und131 : (XK k).und 131 = some (.func #[36, 30] #[36] false) := rfl
theorem ty132 : (XK k).ty 132 = some ⟨ .func #[36, 3, 3] #[36] false, 1, 8, .nilFunc⟩ := rfl
theorem und132 : (XK k).und 132 = some (.func #[36, 3, 3] #[36] false) := rfl
theorem ty133 : (XK k).ty 133 = some ⟨ .func #[9] #[85] false, 1, 8, .nilFunc⟩ := rfl
theorem und133 : (XK k).und 133 = some (.func #[9] #[85] false) := rfl
theorem ty134 : (XK k).ty 134 = some ⟨ .func #[85] #[9] true, 1, 8, .nilFunc⟩ := rfl
theorem und134 : (XK k).und 134 = some (.func #[85] #[9] true) := rfl
theorem ty135 : (XK k).ty 135 = some ⟨ .func #[3] #[4] false, 1, 8, .nilFunc⟩ := rfl
theorem und135 : (XK k).und 135 = some (.func #[3] #[4] false) := rfl
theorem ty136 : (XK k).ty 136 = some ⟨ .func #[22, 22] #[135] false, 1, 8, .nilFunc⟩ := rfl
theorem und136 : (XK k).und 136 = some (.func #[22, 22] #[135] false) := rfl
theorem ty137 : (XK k).ty 137 = some ⟨ .array 64 5, 64, 64, .agg #[(.int .u8 0), (.int .u8 0), (.int .u8 0), (.int .u8 0), (.int .u8 0), (.int .u8 0), (.int .u8 0), (.int .u8 0), (.int .u8 0), (.int .u8 0), (.int .u8 0), (.int .u8 0), (.int .u8 0), (.int .u8 0), (.int .u8 0), (.int .u8 0), (.int .u8 0), (.int .u8 0), (.int .u8 0), (.int .u8 0), (.int .u8 0), (.int .u8 0), (.int .u8 0), (.int .u8 0), (.int .u8 0), (.int .u8 0), (.int .u8 0), (.int .u8 0), (.int .u8 0), (.int .u8 0), (.int .u8 0), (.int .u8 0), (.int .u8 0), (.int .u8 0), (.int .u8 0), (.int .u8 0), (.int .u8 0), (.int .u8 0), (.int .u8 0), (.int .u8 0), (.int .u8 0), (.int .u8 0), (.int .u8 0), (.int .u8 0), (.int .u8 0), (.int .u8 0), (.int .u8 0), (.int .u8 0), (.int .u8 0), (.int .u8 0), (.int .u8 0), (.int .u8 0), (.int .u8 0), (.int .u8 0), (.int .u8 0), (.int .u8 0), (.int .u8 0), (.int .u8 0), (.int .u8 0), (.int .u8 0), (.int .u8 0), (.int .u8 0), (.int .u8 0), (.int .u8 0)]⟩ := rfl
theorem und137 : (XK k).und 137 = some (.array 64 5) := rfl
theorem ty138 : (XK k).ty 138 = some ⟨ .func #[9, 5] #[3] false, 1, 8, .nilFunc⟩ := rfl
theorem und138 : (XK k).und 138 = some (.func #[9, 5] #[3] false) := rfl
theorem ty139 : (XK k).ty 139 = some ⟨ .int .u64, 1, 8, .int .u64 0⟩ := rfl
theorem und139 : (XK k).und 139 = some (.int .u64) := rfl
theorem ty141 : (XK k).ty 141 = some ⟨ .func #[139, 139] #[139, 139] false, 1, 8, .nilFunc⟩ := rfl
theorem und141 : (XK k).und 141 = some (.func #[139, 139] #[139, 139] false) := rfl
theorem ty142 : (XK k).ty 142 = some ⟨ .func #[9, 9] #[4] false, 1, 8, .nilFunc⟩ := rfl
theorem und142 : (XK k).und 142 = some (.func #[9, 9] #[4] false) := rfl
theorem ty143 : (XK k).ty 143 = some ⟨ .pointer 145, 1, 8, .pointer none⟩ := rfl
theorem und143 : (XK k).und 143 = some (.pointer 145) := rfl
theorem ty144 : (XK k).ty 144 = some ⟨ .struct #[⟨ "addr", 143, 0, false, "", "strings", 0⟩, ⟨ "buf", 50, 1, false, "", "strings", 8⟩], 2, 32, .agg #[(.pointer none), (.slice none 0 0)]⟩ := rfl
theorem und144 : (XK k).und 144 = some (.struct #[⟨ "addr", 143, 0, false, "", "strings", 0⟩, ⟨ "buf", 50, 1, false, "", "strings", 8⟩]) := rfl
theorem ty145 : (XK k).ty 145 = some ⟨ .struct #[⟨ "addr", 143, 0, false, "", "strings", 0⟩, ⟨ "buf", 50, 1, false, "", "strings", 8⟩], 2, 32, .agg #[(.pointer none), (.slice none 0 0)]⟩ := rfl
theorem und145 : (XK k).und 145 = some (.struct #[⟨ "addr", 143, 0, false, "", "strings", 0⟩, ⟨ "buf", 50, 1, false, "", "strings", 8⟩]) := rfl
theorem ty146 : (XK k).ty 146 = some ⟨ .func #[3] #[] false, 1, 8, .nilFunc⟩ := rfl
theorem und146 : (XK k).und 146 = some (.func #[3] #[] false) := rfl
theorem ty150 : (XK k).ty 150 = some ⟨ .func #[9] #[3, 148] false, 1, 8, .nilFunc⟩ := rfl
theorem und150 : (XK k).und 150 = some (.func #[9] #[3, 148] false) := rfl
theorem ty151 : (XK k).ty 151 = some ⟨ .func #[] #[9] false, 1, 8, .nilFunc⟩ := rfl
theorem und151 : (XK k).und 151 = some (.func #[] #[9] false) := rfl
theorem ty152 : (XK k).ty 152 = some ⟨ .func #[65, 65] #[118] false, 1, 8, .nilFunc⟩ := rfl
theorem und152 : (XK k).und 152 = some (.func #[65, 65] #[118] false) := rfl
theorem ty153 : (XK k).ty 153 = some ⟨ .func #[66, 65] #[66] false, 1, 8, .nilFunc⟩ := rfl
theorem und153 : (XK k).und 153 = some (.func #[66, 65] #[66] false) := rfl
theorem ty154 : (XK k).ty 154 = some ⟨ .func #[36, 30] #[3] false, 1, 8, .nilFunc⟩ := rfl
theorem und154 : (XK k).und 154 = some (.func #[36, 30] #[3] false) := rfl
theorem ty155 : (XK k).ty 155 = some ⟨ .func #[9, 21] #[3] false, 1, 8, .nilFunc⟩ := rfl
theorem und155 : (XK k).und 155 = some (.func #[9, 21] #[3] false) := rfl
theorem ty156 : (XK k).ty 156 = some ⟨ .func #[50, 21] #[50] false, 1, 8, .nilFunc⟩ := rfl
theorem und156 : (XK k).und 156 = some (.func #[50, 21] #[50] false) := rfl
theorem ty157 : (XK k).ty 157 = some ⟨ .int .u32, 1, 4, .int .u32 0⟩ := rfl
theorem und157 : (XK k).und 157 = some (.int .u32) := rfl
theorem ty159 : (XK k).ty 159 = some ⟨ .func #[157, 157] #[157, 157] false, 1, 8, .nilFunc⟩ := rfl
theorem und159 : (XK k).und 159 = some (.func #[157, 157] #[157, 157] false) := rfl
theorem ty161 : (XK k).ty 161 = some ⟨ .func #[101, 101] #[101, 101] false, 1, 8, .nilFunc⟩ := rfl
theorem und161 : (XK k).und 161 = some (.func #[101, 101] #[101, 101] false) := rfl
theorem ty162 : (XK k).ty 162 = some ⟨ .pointer 5, 1, 8, .pointer none⟩ := rfl
theorem und162 : (XK k).und 162 = some (.pointer 5) := rfl
theorem ty163 : (XK k).ty 163 = some ⟨ .unsafePointer, 1, 8, .pointer none⟩ := rfl
theorem und163 : (XK k).und 163 = some (.unsafePointer) := rfl
theorem ty164 : (XK k).ty 164 = some ⟨ .func #[163] #[163] false, 1, 8, .nilFunc⟩ := rfl
theorem und164 : (XK k).und 164 = some (.func #[163] #[163] false) := rfl
theorem ty165 : (XK k).ty 165 = some ⟨ .func #[3] #[50] false, 1, 8, .nilFunc⟩ := rfl
theorem und165 : (XK k).und 165 = some (.func #[3] #[50] false) := rfl
theorem ty166 : (XK k).ty 166 = some ⟨ .struct #[⟨ "_interface", 17, 0, false, "", "runtime", 0⟩, ⟨ "concrete", 17, 1, false, "", "runtime", 8⟩, ⟨ "asserted", 17, 2, false, "", "runtime", 16⟩, ⟨ "missingMethod", 9, 3, false, "", "runtime", 24⟩], 4, 40, .agg #[(.pointer none), (.pointer none), (.pointer none), (.string ⟨#[]⟩)]⟩ := rfl
theorem und166 : (XK k).und 166 = some (.struct #[⟨ "_interface", 17, 0, false, "", "runtime", 0⟩, ⟨ "concrete", 17, 1, false, "", "runtime", 8⟩, ⟨ "asserted", 17, 2, false, "", "runtime", 16⟩, ⟨ "missingMethod", 9, 3, false, "", "runtime", 24⟩]) := rfl
theorem ty167 : (XK k).ty 167 = some ⟨ .struct #[⟨ "_interface", 17, 0, false, "", "runtime", 0⟩, ⟨ "concrete", 17, 1, false, "", "runtime", 8⟩, ⟨ "asserted", 17, 2, false, "", "runtime", 16⟩, ⟨ "missingMethod", 9, 3, false, "", "runtime", 24⟩], 4, 40, .agg #[(.pointer none), (.pointer none), (.pointer none), (.string ⟨#[]⟩)]⟩ := rfl
theorem und167 : (XK k).und 167 = some (.struct #[⟨ "_interface", 17, 0, false, "", "runtime", 0⟩, ⟨ "concrete", 17, 1, false, "", "runtime", 8⟩, ⟨ "asserted", 17, 2, false, "", "runtime", 16⟩, ⟨ "missingMethod", 9, 3, false, "", "runtime", 24⟩]) := rfl
theorem ty168 : (XK k).ty 168 = some ⟨ .array 0 16, 0, 0, .agg #[]⟩ := rfl
theorem und168 : (XK k).und 168 = some (.array 0 16) := rfl
theorem ty169 : (XK k).ty 169 = some ⟨ .struct #[⟨ "_", 168, 0, false, "", "runtime", 0⟩], 0, 0, .agg #[]⟩ := rfl
theorem und169 : (XK k).und 169 = some (.struct #[⟨ "_", 168, 0, false, "", "runtime", 0⟩]) := rfl
theorem ty170 : (XK k).ty 170 = some ⟨ .struct #[⟨ "_", 168, 0, false, "", "runtime", 0⟩], 0, 0, .agg #[]⟩ := rfl
theorem und170 : (XK k).und 170 = some (.struct #[⟨ "_", 168, 0, false, "", "runtime", 0⟩]) := rfl
theorem ty171 : (XK k).ty 171 = some ⟨ .int .u8, 1, 1, .int .u8 0⟩ := rfl
theorem und171 : (XK k).und 171 = some (.int .u8) := rfl
theorem ty172 : (XK k).ty 172 = some ⟨ .int .u8, 1, 1, .int .u8 0⟩ := rfl
theorem und172 : (XK k).und 172 = some (.int .u8) := rfl
theorem ty173 : (XK k).ty 173 = some ⟨ .func #[163, 163] #[4] false, 1, 8, .nilFunc⟩ := rfl
theorem und173 : (XK k).und 173 = some (.func #[163, 163] #[4] false) := rfl
theorem ty174 : (XK k).ty 174 = some ⟨ .int .i32, 1, 4, .int .i32 0⟩ := rfl
theorem und174 : (XK k).und 174 = some (.int .i32) := rfl
theorem ty175 : (XK k).ty 175 = some ⟨ .int .i32, 1, 4, .int .i32 0⟩ := rfl
theorem und175 : (XK k).und 175 = some (.int .i32) := rfl
theorem ty176 : (XK k).ty 176 = some ⟨ .struct #[⟨ "Size_", 12, 0, false, "", "", 0⟩, ⟨ "PtrBytes", 12, 1, false, "", "", 8⟩, ⟨ "Hash", 157, 2, false, "", "", 16⟩, ⟨ "TFlag", 171, 3, false, "", "", 20⟩, ⟨ "Align_", 5, 4, false, "", "", 21⟩, ⟨ "FieldAlign_", 5, 5, false, "", "", 22⟩, ⟨ "Kind_", 172, 6, false, "", "", 23⟩, ⟨ "Equal", 173, 7, false, "", "", 24⟩, ⟨ "GCData", 162, 8, false, "", "", 32⟩, ⟨ "Str", 174, 9, false, "", "", 40⟩, ⟨ "PtrToThis", 175, 10, false, "", "", 44⟩], 11, 48, .agg #[(.int .u64 0), (.int .u64 0), (.int .u32 0), (.int .u8 0), (.int .u8 0), (.int .u8 0), (.int .u8 0), .nilFunc, (.pointer none), (.int .i32 0), (.int .i32 0)]⟩ := rfl
theorem und176 : (XK k).und 176 = some (.struct #[⟨ "Size_", 12, 0, false, "", "", 0⟩, ⟨ "PtrBytes", 12, 1, false, "", "", 8⟩, ⟨ "Hash", 157, 2, false, "", "", 16⟩, ⟨ "TFlag", 171, 3, false, "", "", 20⟩, ⟨ "Align_", 5, 4, false, "", "", 21⟩, ⟨ "FieldAlign_", 5, 5, false, "", "", 22⟩, ⟨ "Kind_", 172, 6, false, "", "", 23⟩, ⟨ "Equal", 173, 7, false, "", "", 24⟩, ⟨ "GCData", 162, 8, false, "", "", 32⟩, ⟨ "Str", 174, 9, false, "", "", 40⟩, ⟨ "PtrToThis", 175, 10, false, "", "", 44⟩]) := rfl
theorem ty177 : (XK k).ty 177 = some ⟨ .struct #[⟨ "Size_", 12, 0, false, "", "", 0⟩, ⟨ "PtrBytes", 12, 1, false, "", "", 8⟩, ⟨ "Hash", 157, 2, false, "", "", 16⟩, ⟨ "TFlag", 171, 3, false, "", "", 20⟩, ⟨ "Align_", 5, 4, false, "", "", 21⟩, ⟨ "FieldAlign_", 5, 5, false, "", "", 22⟩, ⟨ "Kind_", 172, 6, false, "", "", 23⟩, ⟨ "Equal", 173, 7, false, "", "", 24⟩, ⟨ "GCData", 162, 8, false, "", "", 32⟩, ⟨ "Str", 174, 9, false, "", "", 40⟩, ⟨ "PtrToThis", 175, 10, false, "", "", 44⟩], 11, 48, .agg #[(.int .u64 0), (.int .u64 0), (.int .u32 0), (.int .u8 0), (.int .u8 0), (.int .u8 0), (.int .u8 0), .nilFunc, (.pointer none), (.int .i32 0), (.int .i32 0)]⟩ := rfl
theorem und177 : (XK k).und 177 = some (.struct #[⟨ "Size_", 12, 0, false, "", "", 0⟩, ⟨ "PtrBytes", 12, 1, false, "", "", 8⟩, ⟨ "Hash", 157, 2, false, "", "", 16⟩, ⟨ "TFlag", 171, 3, false, "", "", 20⟩, ⟨ "Align_", 5, 4, false, "", "", 21⟩, ⟨ "FieldAlign_", 5, 5, false, "", "", 22⟩, ⟨ "Kind_", 172, 6, false, "", "", 23⟩, ⟨ "Equal", 173, 7, false, "", "", 24⟩, ⟨ "GCData", 162, 8, false, "", "", 32⟩, ⟨ "Str", 174, 9, false, "", "", 40⟩, ⟨ "PtrToThis", 175, 10, false, "", "", 44⟩]) := rfl
theorem kd26 : kindsOf (XK k) 8 26 = some ([.int .i64, .int .i64, .int .i64]) := by kernel_rfl
theorem kd27 : kindsOf (XK k) 8 27 = some ([.int .i64, .int .i64, .int .i64]) := by kernel_rfl
theorem kd28 : kindsOf (XK k) 8 28 = some ([.int .i64, .int .i64]) := by kernel_rfl
theorem kd29 : kindsOf (XK k) 8 29 = some ([.int .i64, .int .i64]) := by kernel_rfl
theorem kd137 : kindsOf (XK k) 8 137 = some (kreps [.int .u8] 64) := by kernel_rfl
end
attribute [push_cast] ty1 ty2 ty3 ty4 ty5 ty6 ty7 ty8 ty9 ty10 ty11 ty12 ty13 ty14 ty15 ty16 ty17 ty18 ty19 ty21 ty22 ty23 ty24 ty25 ty26 ty27 ty28 ty29 ty30 ty31
attribute [push_cast] ty32 ty33 ty35 ty36 ty37 ty38 ty39 ty40 ty41 ty42 ty43 ty44 ty45 ty46 ty47 ty48 ty49 ty50 ty51 ty52 ty54 ty55 ty56 ty57 ty58 ty59 ty60 ty61 ty63 ty64
attribute [push_cast] ty65 ty66 ty67 ty68 ty69 ty70 ty72 ty74 ty75 ty76 ty77 ty78 ty79 ty81 ty82 ty83 ty84 ty85 ty86 ty87 ty88 ty89 ty90 ty91 ty92 ty93 ty94 ty95 ty96 ty97
attribute [push_cast] ty98 ty99 ty100 ty101 ty103 ty105 ty106 ty107 ty108 ty109 ty110 ty111 ty112 ty113 ty114 ty115 ty116 ty117 ty118 ty119 ty120 ty121 ty122 ty124 ty125 ty126 ty127 ty128 ty129 ty130
attribute [push_cast] ty131 ty132 ty133 ty134 ty135 ty136 ty137 ty138 ty139 ty141 ty142 ty143 ty144 ty145 ty146 ty150 ty151 ty152 ty153 ty154 ty155 ty156 ty157 ty159 ty161 ty162 ty163 ty164 ty165 ty166
attribute [push_cast] ty167 ty168 ty169 ty170 ty171 ty172 ty173 ty174 ty175 ty176 ty177 und1 und2 und3 und4 und5 und6 und7 und8 und9 und10 und11 und12 und13 und14 und15 und16 und17 und18 und19
attribute [push_cast] und21 und22 und23 und24 und25 und26 und27 und28 und29 und30 und31 und32 und33 und35 und36 und37 und38 und39 und40 und41 und42 und43 und44 und45 und46 und47 und48 und49 und50 und51
attribute [push_cast] und52 und54 und55 und56 und57 und58 und59 und60 und61 und63 und64 und65 und66 und67 und68 und69 und70 und72 und74 und75 und76 und77 und78 und79 und81 und82 und83 und84 und85 und86
attribute [push_cast] und87 und88 und89 und90 und91 und92 und93 und94 und95 und96 und97 und98 und99 und100 und101 und103 und105 und106 und107 und108 und109 und110 und111 und112 und113 und114 und115 und116 und117 und118
attribute [push_cast] und119 und120 und121 und122 und124 und125 und126 und127 und128 und129 und130 und131 und132 und133 und134 und135 und136 und137 und138 und139 und141 und142 und143 und144 und145 und146 und150 und151 und152 und153
attribute [push_cast] und154 und155 und156 und157 und159 und161 und162 und163 und164 und165 und166 und167 und168 und169 und170 und171 und172 und173 und174 und175 und176 und177 kd26 kd27 kd28 kd29 kd137
end Go.Proofs.Ytndedkpcfjnecaa.Ab
