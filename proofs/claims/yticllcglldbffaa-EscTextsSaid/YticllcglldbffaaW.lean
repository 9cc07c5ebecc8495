/- This seat's program with whatever is known; its types, one by one. Written by mktab.py. -/
import Derived.Test.YticllcglldbffaaD3
import Derived.Test.YticllcglldbffaaT
namespace Go.Proofs.Yticllcglldbffaa.Ab
open Go.Proofs
set_option maxRecDepth 100000
noncomputable def XK (k : Nat → List Value → Option Value) : Prg := X0.knowing k
theorem soundK {k : Nat → List Value → Option Value} (hk : Knows Try.prog laid k) : SoundF (XK k) Try.prog := sound0.knowing hk
theorem laidW : laidWell gsize X0 = true := by kernel_rfl
section
variable {k : Nat → List Value → Option Value}
theorem ty1 : (XK k).ty 1 = some ⟨ .func #[] #[] false, 1, 8, .nilFunc⟩ := rfl
theorem und1 : (XK k).und 1 = some (.func #[] #[] false) := rfl
theorem ty2 : (XK k).ty 2 = some ⟨ .int .i64, 1, 8, .int .i64 0⟩ := rfl
theorem und2 : (XK k).und 2 = some (.int .i64) := rfl
theorem ty3 : (XK k).ty 3 = some ⟨ .int .i64, 1, 8, .int .i64 0⟩ := rfl
theorem und3 : (XK k).und 3 = some (.int .i64) := rfl
theorem ty4 : (XK k).ty 4 = some ⟨ .bool, 1, 1, .bool false⟩ := rfl
theorem und4 : (XK k).und 4 = some (.bool) := rfl
theorem ty5 : (XK k).ty 5 = some ⟨ .int .u8, 1, 1, .int .u8 0⟩ := rfl
theorem und5 : (XK k).und 5 = some (.int .u8) := rfl
theorem ty6 : (XK k).ty 6 = some ⟨ .int .u8, 1, 1, .int .u8 0⟩ := rfl
theorem und6 : (XK k).und 6 = some (.int .u8) := rfl
theorem ty7 : (XK k).ty 7 = some ⟨ .struct #[⟨ "x", 2, 0, false, "", "runtime", 0⟩, ⟨ "y", 3, 1, false, "", "runtime", 8⟩, ⟨ "signed", 4, 2, false, "", "runtime", 16⟩, ⟨ "code", 6, 3, false, "", "runtime", 17⟩], 4, 24, .agg #[(.int .i64 0), (.int .i64 0), (.bool false), (.int .u8 0)]⟩ := rfl
theorem und7 : (XK k).und 7 = some (.struct #[⟨ "x", 2, 0, false, "", "runtime", 0⟩, ⟨ "y", 3, 1, false, "", "runtime", 8⟩, ⟨ "signed", 4, 2, false, "", "runtime", 16⟩, ⟨ "code", 6, 3, false, "", "runtime", 17⟩]) := rfl
theorem ty8 : (XK k).ty 8 = some ⟨ .struct #[⟨ "x", 2, 0, false, "", "runtime", 0⟩, ⟨ "y", 3, 1, false, "", "runtime", 8⟩, ⟨ "signed", 4, 2, false, "", "runtime", 16⟩, ⟨ "code", 6, 3, false, "", "runtime", 17⟩], 4, 24, .agg #[(.int .i64 0), (.int .i64 0), (.bool false), (.int .u8 0)]⟩ := rfl
theorem und8 : (XK k).und 8 = some (.struct #[⟨ "x", 2, 0, false, "", "runtime", 0⟩, ⟨ "y", 3, 1, false, "", "runtime", 8⟩, ⟨ "signed", 4, 2, false, "", "runtime", 16⟩, ⟨ "code", 6, 3, false, "", "runtime", 17⟩]) := rfl
theorem ty9 : (XK k).ty 9 = some ⟨ .string, 1, 16, .string ⟨#[]⟩⟩ := rfl
theorem und9 : (XK k).und 9 = some (.string) := rfl
theorem ty10 : (XK k).ty 10 = some ⟨ .string, 1, 16, .string ⟨#[]⟩⟩ := rfl
theorem und10 : (XK k).und 10 = some (.string) := rfl
theorem ty11 : (XK k).ty 11 = some ⟨ .string, 1, 16, .string ⟨#[]⟩⟩ := rfl
theorem und11 : (XK k).und 11 = some (.string) := rfl
theorem ty12 : (XK k).ty 12 = some ⟨ .int .u64, 1, 8, .int .u64 0⟩ := rfl
theorem und12 : (XK k).und 12 = some (.int .u64) := rfl
theorem ty13 : (XK k).ty 13 = some ⟨ .struct #[⟨ "msg", 9, 0, false, "", "runtime", 0⟩, ⟨ "addr", 12, 1, false, "", "runtime", 16⟩], 2, 24, .agg #[(.string ⟨#[]⟩), (.int .u64 0)]⟩ := rfl
theorem und13 : (XK k).und 13 = some (.struct #[⟨ "msg", 9, 0, false, "", "runtime", 0⟩, ⟨ "addr", 12, 1, false, "", "runtime", 16⟩]) := rfl
theorem ty14 : (XK k).ty 14 = some ⟨ .struct #[⟨ "msg", 9, 0, false, "", "runtime", 0⟩, ⟨ "addr", 12, 1, false, "", "runtime", 16⟩], 2, 24, .agg #[(.string ⟨#[]⟩), (.int .u64 0)]⟩ := rfl
theorem und14 : (XK k).und 14 = some (.struct #[⟨ "msg", 9, 0, false, "", "runtime", 0⟩, ⟨ "addr", 12, 1, false, "", "runtime", 16⟩]) := rfl
theorem ty15 : (XK k).ty 15 = some ⟨ .pointer 96, 1, 8, .pointer none⟩ := rfl
theorem und15 : (XK k).und 15 = some (.pointer 96) := rfl
theorem ty16 : (XK k).ty 16 = some ⟨ .pointer 99, 1, 8, .pointer none⟩ := rfl
theorem und16 : (XK k).und 16 = some (.pointer 99) := rfl
theorem ty17 : (XK k).ty 17 = some ⟨ .pointer 106, 1, 8, .pointer none⟩ := rfl
theorem und17 : (XK k).und 17 = some (.pointer 106) := rfl
theorem ty18 : (XK k).ty 18 = some ⟨ .struct #[⟨ "typ", 17, 0, false, "", "internal/runtime/maps", 0⟩], 1, 8, .agg #[(.pointer none)]⟩ := rfl
theorem und18 : (XK k).und 18 = some (.struct #[⟨ "typ", 17, 0, false, "", "internal/runtime/maps", 0⟩]) := rfl
theorem ty19 : (XK k).ty 19 = some ⟨ .struct #[⟨ "typ", 17, 0, false, "", "internal/runtime/maps", 0⟩], 1, 8, .agg #[(.pointer none)]⟩ := rfl
theorem und19 : (XK k).und 19 = some (.struct #[⟨ "typ", 17, 0, false, "", "internal/runtime/maps", 0⟩]) := rfl
theorem ty21 : (XK k).ty 21 = some ⟨ .int .i32, 1, 4, .int .i32 0⟩ := rfl
theorem und21 : (XK k).und 21 = some (.int .i32) := rfl
theorem ty22 : (XK k).ty 22 = some ⟨ .slice 30, 1, 24, .slice none 0 0⟩ := rfl
theorem und22 : (XK k).und 22 = some (.slice 30) := rfl
theorem ty23 : (XK k).ty 23 = some ⟨ .func #[22] #[4] false, 1, 8, .nilFunc⟩ := rfl
theorem und23 : (XK k).und 23 = some (.func #[22] #[4] false) := rfl
theorem ty24 : (XK k).ty 24 = some ⟨ .func #[] #[4] false, 1, 8, .nilFunc⟩ := rfl
theorem und24 : (XK k).und 24 = some (.func #[] #[4] false) := rfl
theorem ty25 : (XK k).ty 25 = some ⟨ .int .i64, 1, 8, .int .i64 0⟩ := rfl
theorem und25 : (XK k).und 25 = some (.int .i64) := rfl
theorem ty27 : (XK k).ty 27 = some ⟨ .func #[22] #[9, 25] false, 1, 8, .nilFunc⟩ := rfl
theorem und27 : (XK k).und 27 = some (.func #[22] #[9, 25] false) := rfl
theorem ty28 : (XK k).ty 28 = some ⟨ .func #[22] #[9] false, 1, 8, .nilFunc⟩ := rfl
theorem und28 : (XK k).und 28 = some (.func #[22] #[9] false) := rfl
theorem ty29 : (XK k).ty 29 = some ⟨ .func #[30] #[9, 25] false, 1, 8, .nilFunc⟩ := rfl
theorem und29 : (XK k).und 29 = some (.func #[30] #[9, 25] false) := rfl
theorem ty30 : (XK k).ty 30 = some ⟨ .slice 41, 1, 24, .slice none 0 0⟩ := rfl
theorem und30 : (XK k).und 30 = some (.slice 41) := rfl
theorem ty31 : (XK k).ty 31 = some ⟨ .func #[30] #[9] false, 1, 8, .nilFunc⟩ := rfl
theorem und31 : (XK k).und 31 = some (.func #[30] #[9] false) := rfl
theorem ty32 : (XK k).ty 32 = some ⟨ .func #[30, 30] #[4] false, 1, 8, .nilFunc⟩ := rfl
theorem und32 : (XK k).und 32 = some (.func #[30, 30] #[4] false) := rfl
theorem ty33 : (XK k).ty 33 = some ⟨ .func #[9, 3] #[30] false, 1, 8, .nilFunc⟩ := rfl
theorem und33 : (XK k).und 33 = some (.func #[9, 3] #[30] false) := rfl
theorem ty34 : (XK k).ty 34 = some ⟨ .func #[30, 3] #[30] false, 1, 8, .nilFunc⟩ := rfl
theorem und34 : (XK k).und 34 = some (.func #[30, 3] #[30] false) := rfl
theorem ty35 : (XK k).ty 35 = some ⟨ .func #[9, 3, 3] #[22] false, 1, 8, .nilFunc⟩ := rfl
theorem und35 : (XK k).und 35 = some (.func #[9, 3, 3] #[22] false) := rfl
theorem ty36 : (XK k).ty 36 = some ⟨ .func #[30] #[4] false, 1, 8, .nilFunc⟩ := rfl
theorem und36 : (XK k).und 36 = some (.func #[30] #[4] false) := rfl
theorem ty37 : (XK k).ty 37 = some ⟨ .func #[38, 38] #[4] false, 1, 8, .nilFunc⟩ := rfl
theorem und37 : (XK k).und 37 = some (.func #[38, 38] #[4] false) := rfl
theorem ty38 : (XK k).ty 38 = some ⟨ .slice 3, 1, 24, .slice none 0 0⟩ := rfl
theorem und38 : (XK k).und 38 = some (.slice 3) := rfl
theorem ty39 : (XK k).ty 39 = some ⟨ .func #[30] #[38] false, 1, 8, .nilFunc⟩ := rfl
theorem und39 : (XK k).und 39 = some (.func #[30] #[38] false) := rfl
theorem ty40 : (XK k).ty 40 = some ⟨ .struct #[⟨ "V", 3, 0, false, "", "", 0⟩, ⟨ "L", 3, 1, false, "", "", 8⟩], 2, 16, .agg #[(.int .i64 0), (.int .i64 0)]⟩ := rfl
theorem und40 : (XK k).und 40 = some (.struct #[⟨ "V", 3, 0, false, "", "", 0⟩, ⟨ "L", 3, 1, false, "", "", 8⟩]) := rfl
theorem ty41 : (XK k).ty 41 = some ⟨ .struct #[⟨ "V", 3, 0, false, "", "", 0⟩, ⟨ "L", 3, 1, false, "", "", 8⟩], 2, 16, .agg #[(.int .i64 0), (.int .i64 0)]⟩ := rfl
theorem und41 : (XK k).und 41 = some (.struct #[⟨ "V", 3, 0, false, "", "", 0⟩, ⟨ "L", 3, 1, false, "", "", 8⟩]) := rfl
theorem ty42 : (XK k).ty 42 = some ⟨ .pointer 45, 1, 8, .pointer none⟩ := rfl
theorem und42 : (XK k).und 42 = some (.pointer 45) := rfl
theorem ty43 : (XK k).ty 43 = some ⟨ .slice 5, 1, 24, .slice none 0 0⟩ := rfl
theorem und43 : (XK k).und 43 = some (.slice 5) := rfl
theorem ty44 : (XK k).ty 44 = some ⟨ .struct #[⟨ "addr", 42, 0, false, "", "strings", 0⟩, ⟨ "buf", 43, 1, false, "", "strings", 8⟩], 2, 32, .agg #[(.pointer none), (.slice none 0 0)]⟩ := rfl
theorem und44 : (XK k).und 44 = some (.struct #[⟨ "addr", 42, 0, false, "", "strings", 0⟩, ⟨ "buf", 43, 1, false, "", "strings", 8⟩]) := rfl
theorem ty45 : (XK k).ty 45 = some ⟨ .struct #[⟨ "addr", 42, 0, false, "", "strings", 0⟩, ⟨ "buf", 43, 1, false, "", "strings", 8⟩], 2, 32, .agg #[(.pointer none), (.slice none 0 0)]⟩ := rfl
theorem und45 : (XK k).und 45 = some (.struct #[⟨ "addr", 42, 0, false, "", "strings", 0⟩, ⟨ "buf", 43, 1, false, "", "strings", 8⟩]) := rfl
theorem ty49 : (XK k).ty 49 = some ⟨ .func #[9] #[3, 47] false, 1, 8, .nilFunc⟩ := rfl
theorem und49 : (XK k).und 49 = some (.func #[9] #[3, 47] false) := rfl
theorem ty50 : (XK k).ty 50 = some ⟨ .func #[5] #[47] false, 1, 8, .nilFunc⟩ := rfl
theorem und50 : (XK k).und 50 = some (.func #[5] #[47] false) := rfl
theorem ty51 : (XK k).ty 51 = some ⟨ .func #[] #[9] false, 1, 8, .nilFunc⟩ := rfl
theorem und51 : (XK k).und 51 = some (.func #[] #[9] false) := rfl
theorem ty52 : (XK k).ty 52 = some ⟨ .func #[30] #[25] false, 1, 8, .nilFunc⟩ := rfl
theorem und52 : (XK k).und 52 = some (.func #[30] #[25] false) := rfl
theorem ty53 : (XK k).ty 53 = some ⟨ .func #[3, 3] #[9] false, 1, 8, .nilFunc⟩ := rfl
theorem und53 : (XK k).und 53 = some (.func #[3, 3] #[9] false) := rfl
theorem ty54 : (XK k).ty 54 = some ⟨ .func #[3] #[9] false, 1, 8, .nilFunc⟩ := rfl
theorem und54 : (XK k).und 54 = some (.func #[3] #[9] false) := rfl
theorem ty55 : (XK k).ty 55 = some ⟨ .func #[3] #[4] false, 1, 8, .nilFunc⟩ := rfl
theorem und55 : (XK k).und 55 = some (.func #[3] #[4] false) := rfl
theorem ty56 : (XK k).ty 56 = some ⟨ .func #[57, 3] #[55] false, 1, 8, .nilFunc⟩ := rfl
theorem und56 : (XK k).und 56 = some (.func #[57, 3] #[55] false) := rfl
theorem ty57 : (XK k).ty 57 = some ⟨ .pointer 30, 1, 8, .pointer none⟩ := rfl
theorem und57 : (XK k).und 57 = some (.pointer 30) := rfl
theorem ty59 : (XK k).ty 59 = some ⟨ .func #[9] #[3, 3] false, 1, 8, .nilFunc⟩ := rfl
theorem und59 : (XK k).und 59 = some (.func #[9] #[3, 3] false) := rfl
theorem ty60 : (XK k).ty 60 = some ⟨ .slice 9, 1, 24, .slice none 0 0⟩ := rfl
theorem und60 : (XK k).und 60 = some (.slice 9) := rfl
theorem ty62 : (XK k).ty 62 = some ⟨ .func #[9, 9] #[9, 9, 4] false, 1, 8, .nilFunc⟩ := rfl
theorem und62 : (XK k).und 62 = some (.func #[9, 9] #[9, 9, 4] false) := rfl
theorem ty63 : (XK k).ty 63 = some ⟨ .func #[41] #[4] false, 1, 8, .nilFunc⟩ := rfl
theorem und63 : (XK k).und 63 = some (.func #[41] #[4] false) := rfl
theorem ty64 : (XK k).ty 64 = some ⟨ .pointer 5, 1, 8, .pointer none⟩ := rfl
theorem und64 : (XK k).und 64 = some (.pointer 5) := rfl
theorem ty65 : (XK k).ty 65 = some ⟨ .func #[67] #[9] false, 1, 8, .nilFunc⟩ := rfl
theorem und65 : (XK k).und 65 = some (.func #[67] #[9] false) := rfl
theorem ty66 : (XK k).ty 66 = some ⟨ .func #[67] #[65] false, 1, 8, .nilFunc⟩ := rfl
theorem und66 : (XK k).und 66 = some (.func #[67] #[65] false) := rfl
theorem ty67 : (XK k).ty 67 = some ⟨ .int .u64, 1, 8, .int .u64 0⟩ := rfl
theorem und67 : (XK k).und 67 = some (.int .u64) := rfl
theorem ty68 : (XK k).ty 68 = some ⟨ .func #[9, 3] #[9] false, 1, 8, .nilFunc⟩ := rfl
theorem und68 : (XK k).und 68 = some (.func #[9, 3] #[9] false) := rfl
theorem ty69 : (XK k).ty 69 = some ⟨ .func #[9, 9] #[4] false, 1, 8, .nilFunc⟩ := rfl
theorem und69 : (XK k).und 69 = some (.func #[9, 9] #[4] false) := rfl
theorem ty71 : (XK k).ty 71 = some ⟨ .func #[9] #[3, 25] false, 1, 8, .nilFunc⟩ := rfl
theorem und71 : (XK k).und 71 = some (.func #[9] #[3, 25] false) := rfl
theorem ty72 : (XK k).ty 72 = some ⟨ .unsafePointer, 1, 8, .pointer none⟩ := rfl
theorem und72 : (XK k).und 72 = some (.unsafePointer) := rfl
theorem ty73 : (XK k).ty 73 = some ⟨ .func #[72] #[72] false, 1, 8, .nilFunc⟩ := rfl
theorem und73 : (XK k).und 73 = some (.func #[72] #[72] false) := rfl
theorem ty74 : (XK k).ty 74 = some ⟨ .array 64 5, 64, 64, .agg #[(.int .u8 0), (.int .u8 0), (.int .u8 0), (.int .u8 0), (.int .u8 0), (.int .u8 0), (.int .u8 0), (.int .u8 0), (.int .u8 0), (.int .u8 0), (.int .u8 0), (.int .u8 0), (.int .u8 0), (.int .u8 0), (.int .u8 0), (.int .u8 0), (.int .u8 0), (.int .u8 0), (.int .u8 0), (.int .u8 0), (.int .u8 0), (.int .u8 0), (.int .u8 0), (.int .u8 0), (.int .u8 0), (.int .u8 0), (.int .u8 0), (.int .u8 0), (.int .u8 0), (.int .u8 0), (.int .u8 0), (.int .u8 0), (.int .u8 0), (.int .u8 0), (.int .u8 0), (.int .u8 0), (.int .u8 0), (.int .u8 0), (.int .u8 0), (.int .u8 0), (.int .u8 0), (.int .u8 0), (.int .u8 0), (.int .u8 0), (.int .u8 0), (.int .u8 0), (.int .u8 0), (.int .u8 0), (.int .u8 0), (.int .u8 0), (.int .u8 0), (.int .u8 0), (.int .u8 0), (.int .u8 0), (.int .u8 0), (.int .u8 0), (.int .u8 0), (.int .u8 0), (.int .u8 0), (.int .u8 0), (.int .u8 0), (.int .u8 0), (.int .u8 0), (.int .u8 0)]⟩ := rfl
theorem und74 : (XK k).und 74 = some (.array 64 5) := rfl
theorem ty75 : (XK k).ty 75 = some ⟨ .int .u64, 1, 8, .int .u64 0⟩ := rfl
theorem und75 : (XK k).und 75 = some (.int .u64) := rfl
theorem ty77 : (XK k).ty 77 = some ⟨ .func #[75, 75] #[75, 75] false, 1, 8, .nilFunc⟩ := rfl
theorem und77 : (XK k).und 77 = some (.func #[75, 75] #[75, 75] false) := rfl
theorem ty78 : (XK k).ty 78 = some ⟨ .func #[3] #[] false, 1, 8, .nilFunc⟩ := rfl
theorem und78 : (XK k).und 78 = some (.func #[3] #[] false) := rfl
theorem ty79 : (XK k).ty 79 = some ⟨ .func #[] #[3] false, 1, 8, .nilFunc⟩ := rfl
theorem und79 : (XK k).und 79 = some (.func #[] #[3] false) := rfl
theorem ty81 : (XK k).ty 81 = some ⟨ .func #[9] #[67, 4] false, 1, 8, .nilFunc⟩ := rfl
theorem und81 : (XK k).und 81 = some (.func #[9] #[67, 4] false) := rfl
theorem ty82 : (XK k).ty 82 = some ⟨ .func #[67, 67] #[81] false, 1, 8, .nilFunc⟩ := rfl
theorem und82 : (XK k).und 82 = some (.func #[67, 67] #[81] false) := rfl
theorem ty83 : (XK k).ty 83 = some ⟨ .func #[9, 21] #[3] false, 1, 8, .nilFunc⟩ := rfl
theorem und83 : (XK k).und 83 = some (.func #[9, 21] #[3] false) := rfl
theorem ty84 : (XK k).ty 84 = some ⟨ .func #[21] #[3] false, 1, 8, .nilFunc⟩ := rfl
theorem und84 : (XK k).und 84 = some (.func #[21] #[3] false) := rfl
theorem ty85 : (XK k).ty 85 = some ⟨ .func #[9, 9] #[3] false, 1, 8, .nilFunc⟩ := rfl
theorem und85 : (XK k).und 85 = some (.func #[9, 9] #[3] false) := rfl
theorem ty86 : (XK k).ty 86 = some ⟨ .int .u32, 1, 4, .int .u32 0⟩ := rfl
theorem und86 : (XK k).und 86 = some (.int .u32) := rfl
theorem ty88 : (XK k).ty 88 = some ⟨ .func #[86, 86] #[86, 86] false, 1, 8, .nilFunc⟩ := rfl
theorem und88 : (XK k).und 88 = some (.func #[86, 86] #[86, 86] false) := rfl
theorem ty90 : (XK k).ty 90 = some ⟨ .func #[67, 67] #[67, 67] false, 1, 8, .nilFunc⟩ := rfl
theorem und90 : (XK k).und 90 = some (.func #[67, 67] #[67, 67] false) := rfl
theorem ty91 : (XK k).ty 91 = some ⟨ .func #[9, 5] #[3] false, 1, 8, .nilFunc⟩ := rfl
theorem und91 : (XK k).und 91 = some (.func #[9, 5] #[3] false) := rfl
theorem ty92 : (XK k).ty 92 = some ⟨ .func #[3] #[3] false, 1, 8, .nilFunc⟩ := rfl
theorem und92 : (XK k).und 92 = some (.func #[3] #[3] false) := rfl
theorem ty93 : (XK k).ty 93 = some ⟨ .func #[3] #[43] false, 1, 8, .nilFunc⟩ := rfl
theorem und93 : (XK k).und 93 = some (.func #[3] #[43] false) := rfl
theorem ty94 : (XK k).ty 94 = some ⟨ .func #[9] #[86, 86] false, 1, 8, .nilFunc⟩ := rfl
theorem und94 : (XK k).und 94 = some (.func #[9] #[86, 86] false) := rfl
theorem ty95 : (XK k).ty 95 = some ⟨ .struct #[⟨ "_interface", 17, 0, false, "", "runtime", 0⟩, ⟨ "concrete", 17, 1, false, "", "runtime", 8⟩, ⟨ "asserted", 17, 2, false, "", "runtime", 16⟩, ⟨ "missingMethod", 9, 3, false, "", "runtime", 24⟩], 4, 40, .agg #[(.pointer none), (.pointer none), (.pointer none), (.string ⟨#[]⟩)]⟩ := rfl
theorem und95 : (XK k).und 95 = some (.struct #[⟨ "_interface", 17, 0, false, "", "runtime", 0⟩, ⟨ "concrete", 17, 1, false, "", "runtime", 8⟩, ⟨ "asserted", 17, 2, false, "", "runtime", 16⟩, ⟨ "missingMethod", 9, 3, false, "", "runtime", 24⟩]) := rfl
theorem ty96 : (XK k).ty 96 = some ⟨ .struct #[⟨ "_interface", 17, 0, false, "", "runtime", 0⟩, ⟨ "concrete", 17, 1, false, "", "runtime", 8⟩, ⟨ "asserted", 17, 2, false, "", "runtime", 16⟩, ⟨ "missingMethod", 9, 3, false, "", "runtime", 24⟩], 4, 40, .agg #[(.pointer none), (.pointer none), (.pointer none), (.string ⟨#[]⟩)]⟩ := rfl
theorem und96 : (XK k).und 96 = some (.struct #[⟨ "_interface", 17, 0, false, "", "runtime", 0⟩, ⟨ "concrete", 17, 1, false, "", "runtime", 8⟩, ⟨ "asserted", 17, 2, false, "", "runtime", 16⟩, ⟨ "missingMethod", 9, 3, false, "", "runtime", 24⟩]) := rfl
theorem ty97 : (XK k).ty 97 = some ⟨ .array 0 16, 0, 0, .agg #[]⟩ := rfl
theorem und97 : (XK k).und 97 = some (.array 0 16) := rfl
theorem ty98 : (XK k).ty 98 = some ⟨ .struct #[⟨ "_", 97, 0, false, "", "runtime", 0⟩], 0, 0, .agg #[]⟩ := rfl
theorem und98 : (XK k).und 98 = some (.struct #[⟨ "_", 97, 0, false, "", "runtime", 0⟩]) := rfl
theorem ty99 : (XK k).ty 99 = some ⟨ .struct #[⟨ "_", 97, 0, false, "", "runtime", 0⟩], 0, 0, .agg #[]⟩ := rfl
theorem und99 : (XK k).und 99 = some (.struct #[⟨ "_", 97, 0, false, "", "runtime", 0⟩]) := rfl
theorem ty100 : (XK k).ty 100 = some ⟨ .int .u8, 1, 1, .int .u8 0⟩ := rfl
theorem und100 : (XK k).und 100 = some (.int .u8) := rfl
theorem ty101 : (XK k).ty 101 = some ⟨ .int .u8, 1, 1, .int .u8 0⟩ := rfl
theorem und101 : (XK k).und 101 = some (.int .u8) := rfl
theorem ty102 : (XK k).ty 102 = some ⟨ .func #[72, 72] #[4] false, 1, 8, .nilFunc⟩ := rfl
theorem und102 : (XK k).und 102 = some (.func #[72, 72] #[4] false) := rfl
theorem ty103 : (XK k).ty 103 = some ⟨ .int .i32, 1, 4, .int .i32 0⟩ := rfl
theorem und103 : (XK k).und 103 = some (.int .i32) := rfl
theorem ty104 : (XK k).ty 104 = some ⟨ .int .i32, 1, 4, .int .i32 0⟩ := rfl
theorem und104 : (XK k).und 104 = some (.int .i32) := rfl
theorem ty105 : (XK k).ty 105 = some ⟨ .struct #[⟨ "Size_", 12, 0, false, "", "", 0⟩, ⟨ "PtrBytes", 12, 1, false, "", "", 8⟩, ⟨ "Hash", 86, 2, false, "", "", 16⟩, ⟨ "TFlag", 100, 3, false, "", "", 20⟩, ⟨ "Align_", 5, 4, false, "", "", 21⟩, ⟨ "FieldAlign_", 5, 5, false, "", "", 22⟩, ⟨ "Kind_", 101, 6, false, "", "", 23⟩, ⟨ "Equal", 102, 7, false, "", "", 24⟩, ⟨ "GCData", 64, 8, false, "", "", 32⟩, ⟨ "Str", 103, 9, false, "", "", 40⟩, ⟨ "PtrToThis", 104, 10, false, "", "", 44⟩], 11, 48, .agg #[(.int .u64 0), (.int .u64 0), (.int .u32 0), (.int .u8 0), (.int .u8 0), (.int .u8 0), (.int .u8 0), .nilFunc, (.pointer none), (.int .i32 0), (.int .i32 0)]⟩ := rfl
theorem und105 : (XK k).und 105 = some (.struct #[⟨ "Size_", 12, 0, false, "", "", 0⟩, ⟨ "PtrBytes", 12, 1, false, "", "", 8⟩, ⟨ "Hash", 86, 2, false, "", "", 16⟩, ⟨ "TFlag", 100, 3, false, "", "", 20⟩, ⟨ "Align_", 5, 4, false, "", "", 21⟩, ⟨ "FieldAlign_", 5, 5, false, "", "", 22⟩, ⟨ "Kind_", 101, 6, false, "", "", 23⟩, ⟨ "Equal", 102, 7, false, "", "", 24⟩, ⟨ "GCData", 64, 8, false, "", "", 32⟩, ⟨ "Str", 103, 9, false, "", "", 40⟩, ⟨ "PtrToThis", 104, 10, false, "", "", 44⟩]) := rfl
theorem ty106 : (XK k).ty 106 = some ⟨ .struct #[⟨ "Size_", 12, 0, false, "", "", 0⟩, ⟨ "PtrBytes", 12, 1, false, "", "", 8⟩, ⟨ "Hash", 86, 2, false, "", "", 16⟩, ⟨ "TFlag", 100, 3, false, "", "", 20⟩, ⟨ "Align_", 5, 4, false, "", "", 21⟩, ⟨ "FieldAlign_", 5, 5, false, "", "", 22⟩, ⟨ "Kind_", 101, 6, false, "", "", 23⟩, ⟨ "Equal", 102, 7, false, "", "", 24⟩, ⟨ "GCData", 64, 8, false, "", "", 32⟩, ⟨ "Str", 103, 9, false, "", "", 40⟩, ⟨ "PtrToThis", 104, 10, false, "", "", 44⟩], 11, 48, .agg #[(.int .u64 0), (.int .u64 0), (.int .u32 0), (.int .u8 0), (.int .u8 0), (.int .u8 0), (.int .u8 0), .nilFunc, (.pointer none), (.int .i32 0), (.int .i32 0)]⟩ := rfl
theorem und106 : (XK k).und 106 = some (.struct #[⟨ "Size_", 12, 0, false, "", "", 0⟩, ⟨ "PtrBytes", 12, 1, false, "", "", 8⟩, ⟨ "Hash", 86, 2, false, "", "", 16⟩, ⟨ "TFlag", 100, 3, false, "", "", 20⟩, ⟨ "Align_", 5, 4, false, "", "", 21⟩, ⟨ "FieldAlign_", 5, 5, false, "", "", 22⟩, ⟨ "Kind_", 101, 6, false, "", "", 23⟩, ⟨ "Equal", 102, 7, false, "", "", 24⟩, ⟨ "GCData", 64, 8, false, "", "", 32⟩, ⟨ "Str", 103, 9, false, "", "", 40⟩, ⟨ "PtrToThis", 104, 10, false, "", "", 44⟩]) := rfl
theorem kd40 : kindsOf (XK k) 8 40 = some ([.int .i64, .int .i64]) := by kernel_rfl
theorem kd41 : kindsOf (XK k) 8 41 = some ([.int .i64, .int .i64]) := by kernel_rfl
theorem kd74 : kindsOf (XK k) 8 74 = some (kreps [.int .u8] 64) := by kernel_rfl
end
attribute [push_cast] ty1 ty2 ty3 ty4 ty5 ty6 ty7 ty8 ty9 ty10 ty11 ty12 ty13 ty14 ty15 ty16 ty17 ty18 ty19 ty21 ty22 ty23 ty24 ty25 ty27 ty28 ty29 ty30 ty31 ty32
attribute [push_cast] ty33 ty34 ty35 ty36 ty37 ty38 ty39 ty40 ty41 ty42 ty43 ty44 ty45 ty49 ty50 ty51 ty52 ty53 ty54 ty55 ty56 ty57 ty59 ty60 ty62 ty63 ty64 ty65 ty66 ty67
attribute [push_cast] ty68 ty69 ty71 ty72 ty73 ty74 ty75 ty77 ty78 ty79 ty81 ty82 ty83 ty84 ty85 ty86 ty88 ty90 ty91 ty92 ty93 ty94 ty95 ty96 ty97 ty98 ty99 ty100 ty101 ty102
attribute [push_cast] ty103 ty104 ty105 ty106 und1 und2 und3 und4 und5 und6 und7 und8 und9 und10 und11 und12 und13 und14 und15 und16 und17 und18 und19 und21 und22 und23 und24 und25 und27 und28
attribute [push_cast] und29 und30 und31 und32 und33 und34 und35 und36 und37 und38 und39 und40 und41 und42 und43 und44 und45 und49 und50 und51 und52 und53 und54 und55 und56 und57 und59 und60 und62 und63
attribute [push_cast] und64 und65 und66 und67 und68 und69 und71 und72 und73 und74 und75 und77 und78 und79 und81 und82 und83 und84 und85 und86 und88 und90 und91 und92 und93 und94 und95 und96 und97 und98
attribute [push_cast] und99 und100 und101 und102 und103 und104 und105 und106 kd40 kd41 kd74
end Go.Proofs.Yticllcglldbffaa.Ab
