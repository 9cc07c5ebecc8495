/- What is known of this seat's calls; its types, one by one. Written by mktab.py. -/
import Derived.Test.YtndedkpcfjnecaaA20
import Derived.Test.YtndedkpcfjnecaaT
namespace Go.Proofs.Ytndedkpcfjnecaa.Ab
open Go.Proofs
set_option maxRecDepth 100000
theorem aw11 : awk X0 11 = true := by kernel_rfl
theorem aw13 : awk X0 13 = true := by kernel_rfl
theorem aw36 : awk X0 36 = true := by kernel_rfl
theorem aw44 : awk X0 44 = true := by kernel_rfl
def awl : List Nat := [11, 13, 36, 44]
theorem awl_ok : ∀ f ∈ awl, awk X0 f = true := by
  intro f hf
  simp only [awl, List.mem_cons, List.not_mem_nil, or_false] at hf
  rcases hf with rfl | rfl | rfl | rfl
  · exact aw11
  · exact aw13
  · exact aw36
  · exact aw44
noncomputable def X : Prg := X0.knowing (knL awl)
theorem sound : SoundF X Try.prog := sound0.knowing (knows_knL sound0 (fun _ => rfl) awl_ok)
theorem ty1 : X.ty 1 = some ⟨ .func #[] #[] false, 1, 8, .nilFunc⟩ := rfl
theorem und1 : X.und 1 = some (.func #[] #[] false) := rfl
theorem ty2 : X.ty 2 = some ⟨ .int .i64, 1, 8, .int .i64 0⟩ := rfl
theorem und2 : X.und 2 = some (.int .i64) := rfl
theorem ty3 : X.ty 3 = some ⟨ .int .i64, 1, 8, .int .i64 0⟩ := rfl
theorem und3 : X.und 3 = some (.int .i64) := rfl
theorem ty4 : X.ty 4 = some ⟨ .bool, 1, 1, .bool false⟩ := rfl
theorem und4 : X.und 4 = some (.bool) := rfl
theorem ty5 : X.ty 5 = some ⟨ .int .u8, 1, 1, .int .u8 0⟩ := rfl
theorem und5 : X.und 5 = some (.int .u8) := rfl
theorem ty6 : X.ty 6 = some ⟨ .int .u8, 1, 1, .int .u8 0⟩ := rfl
theorem und6 : X.und 6 = some (.int .u8) := rfl
theorem ty7 : X.ty 7 = some ⟨ .struct #[⟨ "x", 2, 0, false, "", "runtime", 0⟩, ⟨ "y", 3, 1, false, "", "runtime", 8⟩, ⟨ "signed", 4, 2, false, "", "runtime", 16⟩, ⟨ "code", 6, 3, false, "", "runtime", 17⟩], 4, 24, .agg #[(.int .i64 0), (.int .i64 0), (.bool false), (.int .u8 0)]⟩ := rfl
theorem und7 : X.und 7 = some (.struct #[⟨ "x", 2, 0, false, "", "runtime", 0⟩, ⟨ "y", 3, 1, false, "", "runtime", 8⟩, ⟨ "signed", 4, 2, false, "", "runtime", 16⟩, ⟨ "code", 6, 3, false, "", "runtime", 17⟩]) := rfl
theorem ty8 : X.ty 8 = some ⟨ .struct #[⟨ "x", 2, 0, false, "", "runtime", 0⟩, ⟨ "y", 3, 1, false, "", "runtime", 8⟩, ⟨ "signed", 4, 2, false, "", "runtime", 16⟩, ⟨ "code", 6, 3, false, "", "runtime", 17⟩], 4, 24, .agg #[(.int .i64 0), (.int .i64 0), (.bool false), (.int .u8 0)]⟩ := rfl
theorem und8 : X.und 8 = some (.struct #[⟨ "x", 2, 0, false, "", "runtime", 0⟩, ⟨ "y", 3, 1, false, "", "runtime", 8⟩, ⟨ "signed", 4, 2, false, "", "runtime", 16⟩, ⟨ "code", 6, 3, false, "", "runtime", 17⟩]) := rfl
theorem ty9 : X.ty 9 = some ⟨ .string, 1, 16, .string ⟨#[]⟩⟩ := rfl
theorem und9 : X.und 9 = some (.string) := rfl
theorem ty10 : X.ty 10 = some ⟨ .string, 1, 16, .string ⟨#[]⟩⟩ := rfl
theorem und10 : X.und 10 = some (.string) := rfl
theorem ty11 : X.ty 11 = some ⟨ .string, 1, 16, .string ⟨#[]⟩⟩ := rfl
theorem und11 : X.und 11 = some (.string) := rfl
theorem ty12 : X.ty 12 = some ⟨ .int .u64, 1, 8, .int .u64 0⟩ := rfl
theorem und12 : X.und 12 = some (.int .u64) := rfl
theorem ty13 : X.ty 13 = some ⟨ .struct #[⟨ "msg", 9, 0, false, "", "runtime", 0⟩, ⟨ "addr", 12, 1, false, "", "runtime", 16⟩], 2, 24, .agg #[(.string ⟨#[]⟩), (.int .u64 0)]⟩ := rfl
theorem und13 : X.und 13 = some (.struct #[⟨ "msg", 9, 0, false, "", "runtime", 0⟩, ⟨ "addr", 12, 1, false, "", "runtime", 16⟩]) := rfl
theorem ty14 : X.ty 14 = some ⟨ .struct #[⟨ "msg", 9, 0, false, "", "runtime", 0⟩, ⟨ "addr", 12, 1, false, "", "runtime", 16⟩], 2, 24, .agg #[(.string ⟨#[]⟩), (.int .u64 0)]⟩ := rfl
theorem und14 : X.und 14 = some (.struct #[⟨ "msg", 9, 0, false, "", "runtime", 0⟩, ⟨ "addr", 12, 1, false, "", "runtime", 16⟩]) := rfl
theorem ty15 : X.ty 15 = some ⟨ .pointer 167, 1, 8, .pointer none⟩ := rfl
theorem und15 : X.und 15 = some (.pointer 167) := rfl
theorem ty16 : X.ty 16 = some ⟨ .pointer 170, 1, 8, .pointer none⟩ := rfl
theorem und16 : X.und 16 = some (.pointer 170) := rfl
theorem ty17 : X.ty 17 = some ⟨ .pointer 177, 1, 8, .pointer none⟩ := rfl
theorem und17 : X.und 17 = some (.pointer 177) := rfl
theorem ty18 : X.ty 18 = some ⟨ .struct #[⟨ "typ", 17, 0, false, "", "internal/runtime/maps", 0⟩], 1, 8, .agg #[(.pointer none)]⟩ := rfl
theorem und18 : X.und 18 = some (.struct #[⟨ "typ", 17, 0, false, "", "internal/runtime/maps", 0⟩]) := rfl
theorem ty19 : X.ty 19 = some ⟨ .struct #[⟨ "typ", 17, 0, false, "", "internal/runtime/maps", 0⟩], 1, 8, .agg #[(.pointer none)]⟩ := rfl
theorem und19 : X.und 19 = some (.struct #[⟨ "typ", 17, 0, false, "", "internal/runtime/maps", 0⟩]) := rfl
theorem ty21 : X.ty 21 = some ⟨ .int .i32, 1, 4, .int .i32 0⟩ := rfl
theorem und21 : X.und 21 = some (.int .i32) := rfl
theorem ty22 : X.ty 22 = some ⟨ .slice 29, 1, 24, .slice none 0 0⟩ := rfl
theorem und22 : X.und 22 = some (.slice 29) := rfl
theorem ty23 : X.ty 23 = some ⟨ .func #[] #[4] false, 1, 8, .nilFunc⟩ := rfl
theorem und23 : X.und 23 = some (.func #[] #[4] false) := rfl
theorem ty24 : X.ty 24 = some ⟨ .slice 27, 1, 24, .slice none 0 0⟩ := rfl
theorem und24 : X.und 24 = some (.slice 27) := rfl
theorem ty25 : X.ty 25 = some ⟨ .func #[22] #[24] false, 1, 8, .nilFunc⟩ := rfl
theorem und25 : X.und 25 = some (.func #[22] #[24] false) := rfl
theorem ty26 : X.ty 26 = some ⟨ .struct #[⟨ "L", 3, 0, false, "", "", 0⟩, ⟨ "From", 3, 1, false, "", "", 8⟩, ⟨ "To", 3, 2, false, "", "", 16⟩], 3, 24, .agg #[(.int .i64 0), (.int .i64 0), (.int .i64 0)]⟩ := rfl
theorem und26 : X.und 26 = some (.struct #[⟨ "L", 3, 0, false, "", "", 0⟩, ⟨ "From", 3, 1, false, "", "", 8⟩, ⟨ "To", 3, 2, false, "", "", 16⟩]) := rfl
theorem ty27 : X.ty 27 = some ⟨ .struct #[⟨ "L", 3, 0, false, "", "", 0⟩, ⟨ "From", 3, 1, false, "", "", 8⟩, ⟨ "To", 3, 2, false, "", "", 16⟩], 3, 24, .agg #[(.int .i64 0), (.int .i64 0), (.int .i64 0)]⟩ := rfl
theorem und27 : X.und 27 = some (.struct #[⟨ "L", 3, 0, false, "", "", 0⟩, ⟨ "From", 3, 1, false, "", "", 8⟩, ⟨ "To", 3, 2, false, "", "", 16⟩]) := rfl
theorem ty28 : X.ty 28 = some ⟨ .struct #[⟨ "V", 3, 0, false, "", "", 0⟩, ⟨ "L", 3, 1, false, "", "", 8⟩], 2, 16, .agg #[(.int .i64 0), (.int .i64 0)]⟩ := rfl
theorem und28 : X.und 28 = some (.struct #[⟨ "V", 3, 0, false, "", "", 0⟩, ⟨ "L", 3, 1, false, "", "", 8⟩]) := rfl
theorem ty29 : X.ty 29 = some ⟨ .struct #[⟨ "V", 3, 0, false, "", "", 0⟩, ⟨ "L", 3, 1, false, "", "", 8⟩], 2, 16, .agg #[(.int .i64 0), (.int .i64 0)]⟩ := rfl
theorem und29 : X.und 29 = some (.struct #[⟨ "V", 3, 0, false, "", "", 0⟩, ⟨ "L", 3, 1, false, "", "", 8⟩]) := rfl
theorem ty30 : X.ty 30 = some ⟨ .func #[22] #[4] false, 1, 8, .nilFunc⟩ := rfl
theorem und30 : X.und 30 = some (.func #[22] #[4] false) := rfl
theorem ty31 : X.ty 31 = some ⟨ .slice 40, 1, 24, .slice none 0 0⟩ := rfl
theorem und31 : X.und 31 = some (.slice 40) := rfl
theorem ty32 : X.ty 32 = some ⟨ .pointer 94, 1, 8, .pointer none⟩ := rfl
theorem und32 : X.und 32 = some (.pointer 94) := rfl
theorem ty33 : X.ty 33 = some ⟨ .int .i64, 1, 8, .int .i64 0⟩ := rfl
theorem und33 : X.und 33 = some (.int .i64) := rfl
theorem ty35 : X.ty 35 = some ⟨ .func #[3] #[32, 33] false, 1, 8, .nilFunc⟩ := rfl
theorem und35 : X.und 35 = some (.func #[3] #[32, 33] false) := rfl
theorem ty36 : X.ty 36 = some ⟨ .slice 22, 1, 24, .slice none 0 0⟩ := rfl
theorem und36 : X.und 36 = some (.slice 22) := rfl
theorem ty37 : X.ty 37 = some ⟨ .struct #[⟨ "L", 36, 0, false, "", "", 0⟩, ⟨ "Hand", 3, 1, false, "", "", 24⟩], 2, 32, .agg #[(.slice none 0 0), (.int .i64 0)]⟩ := rfl
theorem und37 : X.und 37 = some (.struct #[⟨ "L", 36, 0, false, "", "", 0⟩, ⟨ "Hand", 3, 1, false, "", "", 24⟩]) := rfl
theorem ty38 : X.ty 38 = some ⟨ .struct #[⟨ "L", 36, 0, false, "", "", 0⟩, ⟨ "Hand", 3, 1, false, "", "", 24⟩], 2, 32, .agg #[(.slice none 0 0), (.int .i64 0)]⟩ := rfl
theorem und38 : X.und 38 = some (.struct #[⟨ "L", 36, 0, false, "", "", 0⟩, ⟨ "Hand", 3, 1, false, "", "", 24⟩]) := rfl
theorem ty39 : X.ty 39 = some ⟨ .struct #[⟨ "How", 3, 0, false, "", "", 0⟩, ⟨ "S", 22, 1, false, "", "", 8⟩], 2, 32, .agg #[(.int .i64 0), (.slice none 0 0)]⟩ := rfl
theorem und39 : X.und 39 = some (.struct #[⟨ "How", 3, 0, false, "", "", 0⟩, ⟨ "S", 22, 1, false, "", "", 8⟩]) := rfl
theorem ty40 : X.ty 40 = some ⟨ .struct #[⟨ "How", 3, 0, false, "", "", 0⟩, ⟨ "S", 22, 1, false, "", "", 8⟩], 2, 32, .agg #[(.int .i64 0), (.slice none 0 0)]⟩ := rfl
theorem und40 : X.und 40 = some (.struct #[⟨ "How", 3, 0, false, "", "", 0⟩, ⟨ "S", 22, 1, false, "", "", 8⟩]) := rfl
theorem ty41 : X.ty 41 = some ⟨ .func #[] #[38] false, 1, 8, .nilFunc⟩ := rfl
theorem und41 : X.und 41 = some (.func #[] #[38] false) := rfl
theorem ty42 : X.ty 42 = some ⟨ .func #[22, 3] #[33] false, 1, 8, .nilFunc⟩ := rfl
theorem und42 : X.und 42 = some (.func #[22, 3] #[33] false) := rfl
theorem ty43 : X.ty 43 = some ⟨ .func #[22, 3, 3] #[38] false, 1, 8, .nilFunc⟩ := rfl
theorem und43 : X.und 43 = some (.func #[22, 3, 3] #[38] false) := rfl
theorem ty44 : X.ty 44 = some ⟨ .func #[] #[3] false, 1, 8, .nilFunc⟩ := rfl
theorem und44 : X.und 44 = some (.func #[] #[3] false) := rfl
theorem ty45 : X.ty 45 = some ⟨ .func #[22, 22] #[4] false, 1, 8, .nilFunc⟩ := rfl
theorem und45 : X.und 45 = some (.func #[22, 22] #[4] false) := rfl
theorem ty46 : X.ty 46 = some ⟨ .func #[] #[22] false, 1, 8, .nilFunc⟩ := rfl
theorem und46 : X.und 46 = some (.func #[] #[22] false) := rfl
theorem ty47 : X.ty 47 = some ⟨ .func #[36, 36] #[4] false, 1, 8, .nilFunc⟩ := rfl
theorem und47 : X.und 47 = some (.func #[36, 36] #[4] false) := rfl
theorem ty48 : X.ty 48 = some ⟨ .func #[] #[36] false, 1, 8, .nilFunc⟩ := rfl
theorem und48 : X.und 48 = some (.func #[] #[36] false) := rfl
theorem ty49 : X.ty 49 = some ⟨ .func #[3, 31] #[4] false, 1, 8, .nilFunc⟩ := rfl
theorem und49 : X.und 49 = some (.func #[3, 31] #[4] false) := rfl
theorem ty50 : X.ty 50 = some ⟨ .slice 5, 1, 24, .slice none 0 0⟩ := rfl
theorem und50 : X.und 50 = some (.slice 5) := rfl
theorem ty51 : X.ty 51 = some ⟨ .func #[36, 50, 5] #[4] false, 1, 8, .nilFunc⟩ := rfl
theorem und51 : X.und 51 = some (.func #[36, 50, 5] #[4] false) := rfl
theorem ty52 : X.ty 52 = some ⟨ .func #[3] #[9] false, 1, 8, .nilFunc⟩ := rfl
theorem und52 : X.und 52 = some (.func #[3] #[9] false) := rfl
theorem ty54 : X.ty 54 = some ⟨ .func #[9] #[3, 33] false, 1, 8, .nilFunc⟩ := rfl
theorem und54 : X.und 54 = some (.func #[9] #[3, 33] false) := rfl
theorem ty55 : X.ty 55 = some ⟨ .func #[3, 9] #[4] false, 1, 8, .nilFunc⟩ := rfl
theorem und55 : X.und 55 = some (.func #[3, 9] #[4] false) := rfl
theorem ty56 : X.ty 56 = some ⟨ .func #[3, 3] #[9] false, 1, 8, .nilFunc⟩ := rfl
theorem und56 : X.und 56 = some (.func #[3, 3] #[9] false) := rfl
theorem ty57 : X.ty 57 = some ⟨ .func #[3, 3] #[3] false, 1, 8, .nilFunc⟩ := rfl
theorem und57 : X.und 57 = some (.func #[3, 3] #[3] false) := rfl
theorem ty58 : X.ty 58 = some ⟨ .func #[9] #[3] false, 1, 8, .nilFunc⟩ := rfl
theorem und58 : X.und 58 = some (.func #[9] #[3] false) := rfl
theorem ty59 : X.ty 59 = some ⟨ .func #[3, 3, 9] #[4] false, 1, 8, .nilFunc⟩ := rfl
theorem und59 : X.und 59 = some (.func #[3, 3, 9] #[4] false) := rfl
theorem ty60 : X.ty 60 = some ⟨ .slice 70, 1, 24, .slice none 0 0⟩ := rfl
theorem und60 : X.und 60 = some (.slice 70) := rfl
theorem ty61 : X.ty 61 = some ⟨ .pointer 112, 1, 8, .pointer none⟩ := rfl
theorem und61 : X.und 61 = some (.pointer 112) := rfl
theorem ty63 : X.ty 63 = some ⟨ .func #[3] #[61, 33] false, 1, 8, .nilFunc⟩ := rfl
theorem und63 : X.und 63 = some (.func #[3] #[61, 33] false) := rfl
theorem ty64 : X.ty 64 = some ⟨ .struct #[⟨ "S", 22, 0, false, "", "", 0⟩, ⟨ "At", 3, 1, false, "", "", 24⟩], 2, 32, .agg #[(.slice none 0 0), (.int .i64 0)]⟩ := rfl
theorem und64 : X.und 64 = some (.struct #[⟨ "S", 22, 0, false, "", "", 0⟩, ⟨ "At", 3, 1, false, "", "", 24⟩]) := rfl
theorem ty65 : X.ty 65 = some ⟨ .struct #[⟨ "S", 22, 0, false, "", "", 0⟩, ⟨ "At", 3, 1, false, "", "", 24⟩], 2, 32, .agg #[(.slice none 0 0), (.int .i64 0)]⟩ := rfl
theorem und65 : X.und 65 = some (.struct #[⟨ "S", 22, 0, false, "", "", 0⟩, ⟨ "At", 3, 1, false, "", "", 24⟩]) := rfl
theorem ty66 : X.ty 66 = some ⟨ .slice 65, 1, 24, .slice none 0 0⟩ := rfl
theorem und66 : X.und 66 = some (.slice 65) := rfl
theorem ty67 : X.ty 67 = some ⟨ .struct #[⟨ "Now", 65, 0, false, "", "", 0⟩, ⟨ "Past", 66, 2, false, "", "", 32⟩, ⟨ "Later", 66, 3, false, "", "", 56⟩], 4, 80, .agg #[(.slice none 0 0), (.int .i64 0), (.slice none 0 0), (.slice none 0 0)]⟩ := rfl
theorem und67 : X.und 67 = some (.struct #[⟨ "Now", 65, 0, false, "", "", 0⟩, ⟨ "Past", 66, 2, false, "", "", 32⟩, ⟨ "Later", 66, 3, false, "", "", 56⟩]) := rfl
theorem ty68 : X.ty 68 = some ⟨ .struct #[⟨ "Now", 65, 0, false, "", "", 0⟩, ⟨ "Past", 66, 2, false, "", "", 32⟩, ⟨ "Later", 66, 3, false, "", "", 56⟩], 4, 80, .agg #[(.slice none 0 0), (.int .i64 0), (.slice none 0 0), (.slice none 0 0)]⟩ := rfl
theorem und68 : X.und 68 = some (.struct #[⟨ "Now", 65, 0, false, "", "", 0⟩, ⟨ "Past", 66, 2, false, "", "", 32⟩, ⟨ "Later", 66, 3, false, "", "", 56⟩]) := rfl
theorem ty69 : X.ty 69 = some ⟨ .struct #[⟨ "Kind", 3, 0, false, "", "", 0⟩, ⟨ "X", 65, 1, false, "", "", 8⟩, ⟨ "Join", 4, 3, false, "", "", 40⟩], 4, 48, .agg #[(.int .i64 0), (.slice none 0 0), (.int .i64 0), (.bool false)]⟩ := rfl
theorem und69 : X.und 69 = some (.struct #[⟨ "Kind", 3, 0, false, "", "", 0⟩, ⟨ "X", 65, 1, false, "", "", 8⟩, ⟨ "Join", 4, 3, false, "", "", 40⟩]) := rfl
theorem ty70 : X.ty 70 = some ⟨ .struct #[⟨ "Kind", 3, 0, false, "", "", 0⟩, ⟨ "X", 65, 1, false, "", "", 8⟩, ⟨ "Join", 4, 3, false, "", "", 40⟩], 4, 48, .agg #[(.int .i64 0), (.slice none 0 0), (.int .i64 0), (.bool false)]⟩ := rfl
theorem und70 : X.und 70 = some (.struct #[⟨ "Kind", 3, 0, false, "", "", 0⟩, ⟨ "X", 65, 1, false, "", "", 8⟩, ⟨ "Join", 4, 3, false, "", "", 40⟩]) := rfl
theorem ty72 : X.ty 72 = some ⟨ .func #[61, 68, 70, 3] #[68, 4] false, 1, 8, .nilFunc⟩ := rfl
theorem und72 : X.und 72 = some (.func #[61, 68, 70, 3] #[68, 4] false) := rfl
theorem ty74 : X.ty 74 = some ⟨ .func #[] #[3, 3] false, 1, 8, .nilFunc⟩ := rfl
theorem und74 : X.und 74 = some (.func #[] #[3, 3] false) := rfl
theorem ty75 : X.ty 75 = some ⟨ .func #[65, 65] #[4] false, 1, 8, .nilFunc⟩ := rfl
theorem und75 : X.und 75 = some (.func #[65, 65] #[4] false) := rfl
theorem ty76 : X.ty 76 = some ⟨ .func #[] #[65] false, 1, 8, .nilFunc⟩ := rfl
theorem und76 : X.und 76 = some (.func #[] #[65] false) := rfl
theorem ty77 : X.ty 77 = some ⟨ .func #[3, 60] #[4] false, 1, 8, .nilFunc⟩ := rfl
theorem und77 : X.und 77 = some (.func #[3, 60] #[4] false) := rfl
theorem ty78 : X.ty 78 = some ⟨ .func #[60, 5] #[4] false, 1, 8, .nilFunc⟩ := rfl
theorem und78 : X.und 78 = some (.func #[60, 5] #[4] false) := rfl
theorem ty79 : X.ty 79 = some ⟨ .pointer 129, 1, 8, .pointer none⟩ := rfl
theorem und79 : X.und 79 = some (.pointer 129) := rfl
theorem ty81 : X.ty 81 = some ⟨ .func #[3, 3] #[79, 33] false, 1, 8, .nilFunc⟩ := rfl
theorem und81 : X.und 81 = some (.func #[3, 3] #[79, 33] false) := rfl
theorem ty82 : X.ty 82 = some ⟨ .func #[22] #[33] false, 1, 8, .nilFunc⟩ := rfl
theorem und82 : X.und 82 = some (.func #[22] #[33] false) := rfl
theorem ty83 : X.ty 83 = some ⟨ .func #[22, 3] #[22] false, 1, 8, .nilFunc⟩ := rfl
theorem und83 : X.und 83 = some (.func #[22, 3] #[22] false) := rfl
theorem ty84 : X.ty 84 = some ⟨ .func #[85, 85] #[4] false, 1, 8, .nilFunc⟩ := rfl
theorem und84 : X.und 84 = some (.func #[85, 85] #[4] false) := rfl
theorem ty85 : X.ty 85 = some ⟨ .slice 3, 1, 24, .slice none 0 0⟩ := rfl
theorem und85 : X.und 85 = some (.slice 3) := rfl
theorem ty86 : X.ty 86 = some ⟨ .func #[22] #[85] false, 1, 8, .nilFunc⟩ := rfl
theorem und86 : X.und 86 = some (.func #[22] #[85] false) := rfl
theorem ty87 : X.ty 87 = some ⟨ .func #[36, 5, 5] #[4] false, 1, 8, .nilFunc⟩ := rfl
theorem und87 : X.und 87 = some (.func #[36, 5, 5] #[4] false) := rfl
theorem ty88 : X.ty 88 = some ⟨ .func #[3, 9] #[22] false, 1, 8, .nilFunc⟩ := rfl
theorem und88 : X.und 88 = some (.func #[3, 9] #[22] false) := rfl
theorem ty89 : X.ty 89 = some ⟨ .func #[22] #[9] false, 1, 8, .nilFunc⟩ := rfl
theorem und89 : X.und 89 = some (.func #[22] #[9] false) := rfl
theorem ty90 : X.ty 90 = some ⟨ .func #[22, 22, 3] #[3] false, 1, 8, .nilFunc⟩ := rfl
theorem und90 : X.und 90 = some (.func #[22, 22, 3] #[3] false) := rfl
theorem ty91 : X.ty 91 = some ⟨ .func #[29] #[4] false, 1, 8, .nilFunc⟩ := rfl
theorem und91 : X.und 91 = some (.func #[29] #[4] false) := rfl
theorem ty92 : X.ty 92 = some ⟨ .map 3 22, 1, 8, .map none⟩ := rfl
theorem und92 : X.und 92 = some (.map 3 22) := rfl
theorem ty93 : X.ty 93 = some ⟨ .struct #[⟨ "texts", 92, 0, false, "", "dactyl/kill", 0⟩, ⟨ "from", 3, 1, false, "", "dactyl/kill", 8⟩, ⟨ "to", 3, 2, false, "", "dactyl/kill", 16⟩, ⟨ "hand", 3, 3, false, "", "dactyl/kill", 24⟩, ⟨ "most", 3, 4, false, "", "dactyl/kill", 32⟩], 5, 40, .agg #[(.map none), (.int .i64 0), (.int .i64 0), (.int .i64 0), (.int .i64 0)]⟩ := rfl
theorem und93 : X.und 93 = some (.struct #[⟨ "texts", 92, 0, false, "", "dactyl/kill", 0⟩, ⟨ "from", 3, 1, false, "", "dactyl/kill", 8⟩, ⟨ "to", 3, 2, false, "", "dactyl/kill", 16⟩, ⟨ "hand", 3, 3, false, "", "dactyl/kill", 24⟩, ⟨ "most", 3, 4, false, "", "dactyl/kill", 32⟩]) := rfl
theorem ty94 : X.ty 94 = some ⟨ .struct #[⟨ "texts", 92, 0, false, "", "dactyl/kill", 0⟩, ⟨ "from", 3, 1, false, "", "dactyl/kill", 8⟩, ⟨ "to", 3, 2, false, "", "dactyl/kill", 16⟩, ⟨ "hand", 3, 3, false, "", "dactyl/kill", 24⟩, ⟨ "most", 3, 4, false, "", "dactyl/kill", 32⟩], 5, 40, .agg #[(.map none), (.int .i64 0), (.int .i64 0), (.int .i64 0), (.int .i64 0)]⟩ := rfl
theorem und94 : X.und 94 = some (.struct #[⟨ "texts", 92, 0, false, "", "dactyl/kill", 0⟩, ⟨ "from", 3, 1, false, "", "dactyl/kill", 8⟩, ⟨ "to", 3, 2, false, "", "dactyl/kill", 16⟩, ⟨ "hand", 3, 3, false, "", "dactyl/kill", 24⟩, ⟨ "most", 3, 4, false, "", "dactyl/kill", 32⟩]) := rfl
theorem ty95 : X.ty 95 = some ⟨ .func #[36] #[22] true, 1, 8, .nilFunc⟩ := rfl
theorem und95 : X.und 95 = some (.func #[36] #[22] true) := rfl
theorem ty96 : X.ty 96 = some ⟨ .func #[22, 22] #[22] false, 1, 8, .nilFunc⟩ := rfl
theorem und96 : X.und 96 = some (.func #[22, 22] #[22] false) := rfl
theorem ty97 : X.ty 97 = some ⟨ .func #[3] #[22] false, 1, 8, .nilFunc⟩ := rfl
theorem und97 : X.und 97 = some (.func #[3] #[22] false) := rfl
theorem ty98 : X.ty 98 = some ⟨ .func #[32] #[97] false, 1, 8, .nilFunc⟩ := rfl
theorem und98 : X.und 98 = some (.func #[32] #[97] false) := rfl
theorem ty99 : X.ty 99 = some ⟨ .func #[101] #[9] false, 1, 8, .nilFunc⟩ := rfl
theorem und99 : X.und 99 = some (.func #[101] #[9] false) := rfl
theorem ty100 : X.ty 100 = some ⟨ .func #[101] #[99] false, 1, 8, .nilFunc⟩ := rfl
theorem und100 : X.und 100 = some (.func #[101] #[99] false) := rfl
theorem ty101 : X.ty 101 = some ⟨ .int .u64, 1, 8, .int .u64 0⟩ := rfl
theorem und101 : X.und 101 = some (.int .u64) := rfl
theorem ty103 : X.ty 103 = some ⟨ .func #[9, 9] #[9, 4] false, 1, 8, .nilFunc⟩ := rfl
theorem und103 : X.und 103 = some (.func #[9, 9] #[9, 4] false) := rfl
theorem ty105 : X.ty 105 = some ⟨ .func #[9] #[101, 4] false, 1, 8, .nilFunc⟩ := rfl
theorem und105 : X.und 105 = some (.func #[9] #[101, 4] false) := rfl
theorem ty106 : X.ty 106 = some ⟨ .func #[101, 101] #[105] false, 1, 8, .nilFunc⟩ := rfl
theorem und106 : X.und 106 = some (.func #[101, 101] #[105] false) := rfl
theorem ty107 : X.ty 107 = some ⟨ .func #[9, 3] #[9] false, 1, 8, .nilFunc⟩ := rfl
theorem und107 : X.und 107 = some (.func #[9, 3] #[9] false) := rfl
theorem ty108 : X.ty 108 = some ⟨ .func #[5] #[3] false, 1, 8, .nilFunc⟩ := rfl
theorem und108 : X.und 108 = some (.func #[5] #[3] false) := rfl
theorem ty109 : X.ty 109 = some ⟨ .func #[65, 4] #[33] false, 1, 8, .nilFunc⟩ := rfl
theorem und109 : X.und 109 = some (.func #[65, 4] #[33] false) := rfl
theorem ty110 : X.ty 110 = some ⟨ .slice 118, 1, 24, .slice none 0 0⟩ := rfl
theorem und110 : X.und 110 = some (.slice 118) := rfl
theorem ty111 : X.ty 111 = some ⟨ .struct #[⟨ "now", 65, 0, false, "", "dactyl/undo", 0⟩, ⟨ "were", 110, 2, false, "", "dactyl/undo", 32⟩, ⟨ "taken", 110, 3, false, "", "dactyl/undo", 56⟩, ⟨ "most", 3, 4, false, "", "dactyl/undo", 80⟩], 5, 88, .agg #[(.slice none 0 0), (.int .i64 0), (.slice none 0 0), (.slice none 0 0), (.int .i64 0)]⟩ := rfl
theorem und111 : X.und 111 = some (.struct #[⟨ "now", 65, 0, false, "", "dactyl/undo", 0⟩, ⟨ "were", 110, 2, false, "", "dactyl/undo", 32⟩, ⟨ "taken", 110, 3, false, "", "dactyl/undo", 56⟩, ⟨ "most", 3, 4, false, "", "dactyl/undo", 80⟩]) := rfl
theorem ty112 : X.ty 112 = some ⟨ .struct #[⟨ "now", 65, 0, false, "", "dactyl/undo", 0⟩, ⟨ "were", 110, 2, false, "", "dactyl/undo", 32⟩, ⟨ "taken", 110, 3, false, "", "dactyl/undo", 56⟩, ⟨ "most", 3, 4, false, "", "dactyl/undo", 80⟩], 5, 88, .agg #[(.slice none 0 0), (.int .i64 0), (.slice none 0 0), (.slice none 0 0), (.int .i64 0)]⟩ := rfl
theorem und112 : X.und 112 = some (.struct #[⟨ "now", 65, 0, false, "", "dactyl/undo", 0⟩, ⟨ "were", 110, 2, false, "", "dactyl/undo", 32⟩, ⟨ "taken", 110, 3, false, "", "dactyl/undo", 56⟩, ⟨ "most", 3, 4, false, "", "dactyl/undo", 80⟩]) := rfl
theorem ty113 : X.ty 113 = some ⟨ .func #[65] #[4] false, 1, 8, .nilFunc⟩ := rfl
theorem und113 : X.und 113 = some (.func #[65] #[4] false) := rfl
theorem ty114 : X.ty 114 = some ⟨ .func #[65, 4, 3] #[68] false, 1, 8, .nilFunc⟩ := rfl
theorem und114 : X.und 114 = some (.func #[65, 4, 3] #[68] false) := rfl
theorem ty115 : X.ty 115 = some ⟨ .func #[] #[68, 4] false, 1, 8, .nilFunc⟩ := rfl
theorem und115 : X.und 115 = some (.func #[] #[68, 4] false) := rfl
theorem ty116 : X.ty 116 = some ⟨ .func #[22] #[22] false, 1, 8, .nilFunc⟩ := rfl
theorem und116 : X.und 116 = some (.func #[22] #[22] false) := rfl
theorem ty117 : X.ty 117 = some ⟨ .struct #[⟨ "place", 3, 0, false, "", "dactyl/undo", 0⟩, ⟨ "gone", 22, 1, false, "", "dactyl/undo", 8⟩, ⟨ "come", 22, 2, false, "", "dactyl/undo", 32⟩, ⟨ "at", 3, 3, false, "", "dactyl/undo", 56⟩], 4, 64, .agg #[(.int .i64 0), (.slice none 0 0), (.slice none 0 0), (.int .i64 0)]⟩ := rfl
theorem und117 : X.und 117 = some (.struct #[⟨ "place", 3, 0, false, "", "dactyl/undo", 0⟩, ⟨ "gone", 22, 1, false, "", "dactyl/undo", 8⟩, ⟨ "come", 22, 2, false, "", "dactyl/undo", 32⟩, ⟨ "at", 3, 3, false, "", "dactyl/undo", 56⟩]) := rfl
theorem ty118 : X.ty 118 = some ⟨ .struct #[⟨ "place", 3, 0, false, "", "dactyl/undo", 0⟩, ⟨ "gone", 22, 1, false, "", "dactyl/undo", 8⟩, ⟨ "come", 22, 2, false, "", "dactyl/undo", 32⟩, ⟨ "at", 3, 3, false, "", "dactyl/undo", 56⟩], 4, 64, .agg #[(.int .i64 0), (.slice none 0 0), (.slice none 0 0), (.int .i64 0)]⟩ := rfl
theorem und118 : X.und 118 = some (.struct #[⟨ "place", 3, 0, false, "", "dactyl/undo", 0⟩, ⟨ "gone", 22, 1, false, "", "dactyl/undo", 8⟩, ⟨ "come", 22, 2, false, "", "dactyl/undo", 32⟩, ⟨ "at", 3, 3, false, "", "dactyl/undo", 56⟩]) := rfl
theorem ty119 : X.ty 119 = some ⟨ .func #[3, 3, 22, 3] #[] false, 1, 8, .nilFunc⟩ := rfl
theorem und119 : X.und 119 = some (.func #[3, 3, 22, 3] #[] false) := rfl
theorem ty120 : X.ty 120 = some ⟨ .func #[121] #[119] false, 1, 8, .nilFunc⟩ := rfl
theorem und120 : X.und 120 = some (.func #[121] #[119] false) := rfl
theorem ty121 : X.ty 121 = some ⟨ .pointer 65, 1, 8, .pointer none⟩ := rfl
theorem und121 : X.und 121 = some (.pointer 65) := rfl
theorem ty122 : X.ty 122 = some ⟨ .func #[110, 3, 3] #[110] false, 1, 8, .nilFunc⟩ := rfl
theorem und122 : X.und 122 = some (.func #[110, 3, 3] #[110] false) := rfl
theorem ty124 : X.ty 124 = some ⟨ .func #[22] #[22, 4] false, 1, 8, .nilFunc⟩ := rfl
theorem und124 : X.und 124 = some (.func #[22] #[22, 4] false) := rfl
theorem ty125 : X.ty 125 = some ⟨ .func #[22, 3] #[3] false, 1, 8, .nilFunc⟩ := rfl
theorem und125 : X.und 125 = some (.func #[22, 3] #[3] false) := rfl
theorem ty126 : X.ty 126 = some ⟨ .func #[] #[22, 4] false, 1, 8, .nilFunc⟩ := rfl
theorem und126 : X.und 126 = some (.func #[] #[22, 4] false) := rfl
theorem ty127 : X.ty 127 = some ⟨ .func #[36, 3, 3] #[79, 33] false, 1, 8, .nilFunc⟩ := rfl
theorem und127 : X.und 127 = some (.func #[36, 3, 3] #[79, 33] false) := rfl
theorem ty128 : X.ty 128 = some ⟨ .struct #[⟨ "entries", 36, 0, false, "", "dactyl/hist", 0⟩, ⟨ "hand", 3, 1, false, "", "dactyl/hist", 24⟩, ⟨ "typed", 22, 2, false, "", "dactyl/hist", 32⟩, ⟨ "most", 3, 3, false, "", "dactyl/hist", 56⟩, ⟨ "long", 3, 4, false, "", "dactyl/hist", 64⟩], 5, 72, .agg #[(.slice none 0 0), (.int .i64 0), (.slice none 0 0), (.int .i64 0), (.int .i64 0)]⟩ := rfl
theorem und128 : X.und 128 = some (.struct #[⟨ "entries", 36, 0, false, "", "dactyl/hist", 0⟩, ⟨ "hand", 3, 1, false, "", "dactyl/hist", 24⟩, ⟨ "typed", 22, 2, false, "", "dactyl/hist", 32⟩, ⟨ "most", 3, 3, false, "", "dactyl/hist", 56⟩, ⟨ "long", 3, 4, false, "", "dactyl/hist", 64⟩]) := rfl
theorem ty129 : X.ty 129 = some ⟨ .struct #[⟨ "entries", 36, 0, false, "", "dactyl/hist", 0⟩, ⟨ "hand", 3, 1, false, "", "dactyl/hist", 24⟩, ⟨ "typed", 22, 2, false, "", "dactyl/hist", 32⟩, ⟨ "most", 3, 3, false, "", "dactyl/hist", 56⟩, ⟨ "long", 3, 4, false, "", "dactyl/hist", 64⟩], 5, 72, .agg #[(.slice none 0 0), (.int .i64 0), (.slice none 0 0), (.int .i64 0), (.int .i64 0)]⟩ := rfl
theorem und129 : X.und 129 = some (.struct #[⟨ "entries", 36, 0, false, "", "dactyl/hist", 0⟩, ⟨ "hand", 3, 1, false, "", "dactyl/hist", 24⟩, ⟨ "typed", 22, 2, false, "", "dactyl/hist", 32⟩, ⟨ "most", 3, 3, false, "", "dactyl/hist", 56⟩, ⟨ "long", 3, 4, false, "", "dactyl/hist", 64⟩]) := rfl
theorem ty130 : X.ty 130 = some ⟨ .func #[22] #[30] false, 1, 8, .nilFunc⟩ := rfl
theorem und130 : X.und 130 = some (.func #[22] #[30] false) := rfl
theorem ty131 : X.ty 131 = some ⟨ .func #[36, 30] #[36] false, 1, 8, .nilFunc⟩ := rfl
theorem und131 : X.und 131 = some (.func #[36, 30] #[36] false) := rfl
theorem ty132 : X.ty 132 = some ⟨ .func #[36, 3, 3] #[36] false, 1, 8, .nilFunc⟩ := rfl
theorem und132 : X.und 132 = some (.func #[36, 3, 3] #[36] false) := rfl
theorem ty133 : X.ty 133 = some ⟨ .func #[9] #[85] false, 1, 8, .nilFunc⟩ := rfl
theorem und133 : X.und 133 = some (.func #[9] #[85] false) := rfl
theorem ty134 : X.ty 134 = some ⟨ .func #[85] #[9] true, 1, 8, .nilFunc⟩ := rfl
theorem und134 : X.und 134 = some (.func #[85] #[9] true) := rfl
theorem ty135 : X.ty 135 = some ⟨ .func #[3] #[4] false, 1, 8, .nilFunc⟩ := rfl
theorem und135 : X.und 135 = some (.func #[3] #[4] false) := rfl
theorem ty136 : X.ty 136 = some ⟨ .func #[22, 22] #[135] false, 1, 8, .nilFunc⟩ := rfl
theorem und136 : X.und 136 = some (.func #[22, 22] #[135] false) := rfl
theorem ty137 : X.ty 137 = some ⟨ .array 64 5, 64, 64, .agg #[(.int .u8 0), (.int .u8 0), (.int .u8 0), (.int .u8 0), (.int .u8 0), (.int .u8 0), (.int .u8 0), (.int .u8 0), (.int .u8 0), (.int .u8 0), (.int .u8 0), (.int .u8 0), (.int .u8 0), (.int .u8 0), (.int .u8 0), (.int .u8 0), (.int .u8 0), (.int .u8 0), (.int .u8 0), (.int .u8 0), (.int .u8 0), (.int .u8 0), (.int .u8 0), (.int .u8 0), (.int .u8 0), (.int .u8 0), (.int .u8 0), (.int .u8 0), (.int .u8 0), (.int .u8 0), (.int .u8 0), (.int .u8 0), (.int .u8 0), (.int .u8 0), (.int .u8 0), (.int .u8 0), (.int .u8 0), (.int .u8 0), (.int .u8 0), (.int .u8 0), (.int .u8 0), (.int .u8 0), (.int .u8 0), (.int .u8 0), (.int .u8 0), (.int .u8 0), (.int .u8 0), (.int .u8 0), (.int .u8 0), (.int .u8 0), (.int .u8 0), (.int .u8 0), (.int .u8 0), (.int .u8 0), (.int .u8 0), (.int .u8 0), (.int .u8 0), (.int .u8 0), (.int .u8 0), (.int .u8 0), (.int .u8 0), (.int .u8 0), (.int .u8 0), (.int .u8 0)]⟩ := rfl
theorem und137 : X.und 137 = some (.array 64 5) := rfl
theorem ty138 : X.ty 138 = some ⟨ .func #[9, 5] #[3] false, 1, 8, .nilFunc⟩ := rfl
theorem und138 : X.und 138 = some (.func #[9, 5] #[3] false) := rfl
theorem ty139 : X.ty 139 = some ⟨ .int .u64, 1, 8, .int .u64 0⟩ := rfl
theorem und139 : X.und 139 = some (.int .u64) := rfl
theorem ty141 : X.ty 141 = some ⟨ .func #[139, 139] #[139, 139] false, 1, 8, .nilFunc⟩ := rfl
theorem und141 : X.und 141 = some (.func #[139, 139] #[139, 139] false) := rfl
theorem ty142 : X.ty 142 = some ⟨ .func #[9, 9] #[4] false, 1, 8, .nilFunc⟩ := rfl
theorem und142 : X.und 142 = some (.func #[9, 9] #[4] false) := rfl
theorem ty143 : X.ty 143 = some ⟨ .pointer 145, 1, 8, .pointer none⟩ := rfl
theorem und143 : X.und 143 = some (.pointer 145) := rfl
theorem ty144 : X.ty 144 = some ⟨ .struct #[⟨ "addr", 143, 0, false, "", "strings", 0⟩, ⟨ "buf", 50, 1, false, "", "strings", 8⟩], 2, 32, .agg #[(.pointer none), (.slice none 0 0)]⟩ := rfl
theorem und144 : X.und 144 = some (.struct #[⟨ "addr", 143, 0, false, "", "strings", 0⟩, ⟨ "buf", 50, 1, false, "", "strings", 8⟩]) := rfl
theorem ty145 : X.ty 145 = some ⟨ .struct #[⟨ "addr", 143, 0, false, "", "strings", 0⟩, ⟨ "buf", 50, 1, false, "", "strings", 8⟩], 2, 32, .agg #[(.pointer none), (.slice none 0 0)]⟩ := rfl
theorem und145 : X.und 145 = some (.struct #[⟨ "addr", 143, 0, false, "", "strings", 0⟩, ⟨ "buf", 50, 1, false, "", "strings", 8⟩]) := rfl
theorem ty146 : X.ty 146 = some ⟨ .func #[3] #[] false, 1, 8, .nilFunc⟩ := rfl
theorem und146 : X.und 146 = some (.func #[3] #[] false) := rfl
theorem ty150 : X.ty 150 = some ⟨ .func #[9] #[3, 148] false, 1, 8, .nilFunc⟩ := rfl
theorem und150 : X.und 150 = some (.func #[9] #[3, 148] false) := rfl
theorem ty151 : X.ty 151 = some ⟨ .func #[] #[9] false, 1, 8, .nilFunc⟩ := rfl
theorem und151 : X.und 151 = some (.func #[] #[9] false) := rfl
theorem ty152 : X.ty 152 = some ⟨ .func #[65, 65] #[118] false, 1, 8, .nilFunc⟩ := rfl
theorem und152 : X.und 152 = some (.func #[65, 65] #[118] false) := rfl
theorem ty153 : X.ty 153 = some ⟨ .func #[66, 65] #[66] false, 1, 8, .nilFunc⟩ := rfl
theorem und153 : X.und 153 = some (.func #[66, 65] #[66] false) := rfl
theorem ty154 : X.ty 154 = some ⟨ .func #[36, 30] #[3] false, 1, 8, .nilFunc⟩ := rfl
theorem und154 : X.und 154 = some (.func #[36, 30] #[3] false) := rfl
theorem ty155 : X.ty 155 = some ⟨ .func #[9, 21] #[3] false, 1, 8, .nilFunc⟩ := rfl
theorem und155 : X.und 155 = some (.func #[9, 21] #[3] false) := rfl
theorem ty156 : X.ty 156 = some ⟨ .func #[50, 21] #[50] false, 1, 8, .nilFunc⟩ := rfl
theorem und156 : X.und 156 = some (.func #[50, 21] #[50] false) := rfl
theorem ty157 : X.ty 157 = some ⟨ .int .u32, 1, 4, .int .u32 0⟩ := rfl
theorem und157 : X.und 157 = some (.int .u32) := rfl
theorem ty159 : X.ty 159 = some ⟨ .func #[157, 157] #[157, 157] false, 1, 8, .nilFunc⟩ := rfl
theorem und159 : X.und 159 = some (.func #[157, 157] #[157, 157] false) := rfl
theorem ty161 : X.ty 161 = some ⟨ .func #[101, 101] #[101, 101] false, 1, 8, .nilFunc⟩ := rfl
theorem und161 : X.und 161 = some (.func #[101, 101] #[101, 101] false) := rfl
theorem ty162 : X.ty 162 = some ⟨ .pointer 5, 1, 8, .pointer none⟩ := rfl
theorem und162 : X.und 162 = some (.pointer 5) := rfl
theorem ty164 : X.ty 164 = some ⟨ .func #[163] #[163] false, 1, 8, .nilFunc⟩ := rfl
theorem und164 : X.und 164 = some (.func #[163] #[163] false) := rfl
theorem ty165 : X.ty 165 = some ⟨ .func #[3] #[50] false, 1, 8, .nilFunc⟩ := rfl
theorem und165 : X.und 165 = some (.func #[3] #[50] false) := rfl
theorem ty166 : X.ty 166 = some ⟨ .struct #[⟨ "_interface", 17, 0, false, "", "runtime", 0⟩, ⟨ "concrete", 17, 1, false, "", "runtime", 8⟩, ⟨ "asserted", 17, 2, false, "", "runtime", 16⟩, ⟨ "missingMethod", 9, 3, false, "", "runtime", 24⟩], 4, 40, .agg #[(.pointer none), (.pointer none), (.pointer none), (.string ⟨#[]⟩)]⟩ := rfl
theorem und166 : X.und 166 = some (.struct #[⟨ "_interface", 17, 0, false, "", "runtime", 0⟩, ⟨ "concrete", 17, 1, false, "", "runtime", 8⟩, ⟨ "asserted", 17, 2, false, "", "runtime", 16⟩, ⟨ "missingMethod", 9, 3, false, "", "runtime", 24⟩]) := rfl
theorem ty167 : X.ty 167 = some ⟨ .struct #[⟨ "_interface", 17, 0, false, "", "runtime", 0⟩, ⟨ "concrete", 17, 1, false, "", "runtime", 8⟩, ⟨ "asserted", 17, 2, false, "", "runtime", 16⟩, ⟨ "missingMethod", 9, 3, false, "", "runtime", 24⟩], 4, 40, .agg #[(.pointer none), (.pointer none), (.pointer none), (.string ⟨#[]⟩)]⟩ := rfl
theorem und167 : X.und 167 = some (.struct #[⟨ "_interface", 17, 0, false, "", "runtime", 0⟩, ⟨ "concrete", 17, 1, false, "", "runtime", 8⟩, ⟨ "asserted", 17, 2, false, "", "runtime", 16⟩, ⟨ "missingMethod", 9, 3, false, "", "runtime", 24⟩]) := rfl
theorem ty168 : X.ty 168 = some ⟨ .array 0 16, 0, 0, .agg #[]⟩ := rfl
theorem und168 : X.und 168 = some (.array 0 16) := rfl
theorem ty169 : X.ty 169 = some ⟨ .struct #[⟨ "_", 168, 0, false, "", "runtime", 0⟩], 0, 0, .agg #[]⟩ := rfl
theorem und169 : X.und 169 = some (.struct #[⟨ "_", 168, 0, false, "", "runtime", 0⟩]) := rfl
theorem ty170 : X.ty 170 = some ⟨ .struct #[⟨ "_", 168, 0, false, "", "runtime", 0⟩], 0, 0, .agg #[]⟩ := rfl
theorem und170 : X.und 170 = some (.struct #[⟨ "_", 168, 0, false, "", "runtime", 0⟩]) := rfl
theorem ty171 : X.ty 171 = some ⟨ .int .u8, 1, 1, .int .u8 0⟩ := rfl
theorem und171 : X.und 171 = some (.int .u8) := rfl
theorem ty172 : X.ty 172 = some ⟨ .int .u8, 1, 1, .int .u8 0⟩ := rfl
theorem und172 : X.und 172 = some (.int .u8) := rfl
theorem ty173 : X.ty 173 = some ⟨ .func #[163, 163] #[4] false, 1, 8, .nilFunc⟩ := rfl
theorem und173 : X.und 173 = some (.func #[163, 163] #[4] false) := rfl
theorem ty174 : X.ty 174 = some ⟨ .int .i32, 1, 4, .int .i32 0⟩ := rfl
theorem und174 : X.und 174 = some (.int .i32) := rfl
theorem ty175 : X.ty 175 = some ⟨ .int .i32, 1, 4, .int .i32 0⟩ := rfl
theorem und175 : X.und 175 = some (.int .i32) := rfl
theorem ty176 : X.ty 176 = some ⟨ .struct #[⟨ "Size_", 12, 0, false, "", "", 0⟩, ⟨ "PtrBytes", 12, 1, false, "", "", 8⟩, ⟨ "Hash", 157, 2, false, "", "", 16⟩, ⟨ "TFlag", 171, 3, false, "", "", 20⟩, ⟨ "Align_", 5, 4, false, "", "", 21⟩, ⟨ "FieldAlign_", 5, 5, false, "", "", 22⟩, ⟨ "Kind_", 172, 6, false, "", "", 23⟩, ⟨ "Equal", 173, 7, false, "", "", 24⟩, ⟨ "GCData", 162, 8, false, "", "", 32⟩, ⟨ "Str", 174, 9, false, "", "", 40⟩, ⟨ "PtrToThis", 175, 10, false, "", "", 44⟩], 11, 48, .agg #[(.int .u64 0), (.int .u64 0), (.int .u32 0), (.int .u8 0), (.int .u8 0), (.int .u8 0), (.int .u8 0), .nilFunc, (.pointer none), (.int .i32 0), (.int .i32 0)]⟩ := rfl
theorem und176 : X.und 176 = some (.struct #[⟨ "Size_", 12, 0, false, "", "", 0⟩, ⟨ "PtrBytes", 12, 1, false, "", "", 8⟩, ⟨ "Hash", 157, 2, false, "", "", 16⟩, ⟨ "TFlag", 171, 3, false, "", "", 20⟩, ⟨ "Align_", 5, 4, false, "", "", 21⟩, ⟨ "FieldAlign_", 5, 5, false, "", "", 22⟩, ⟨ "Kind_", 172, 6, false, "", "", 23⟩, ⟨ "Equal", 173, 7, false, "", "", 24⟩, ⟨ "GCData", 162, 8, false, "", "", 32⟩, ⟨ "Str", 174, 9, false, "", "", 40⟩, ⟨ "PtrToThis", 175, 10, false, "", "", 44⟩]) := rfl
theorem ty177 : X.ty 177 = some ⟨ .struct #[⟨ "Size_", 12, 0, false, "", "", 0⟩, ⟨ "PtrBytes", 12, 1, false, "", "", 8⟩, ⟨ "Hash", 157, 2, false, "", "", 16⟩, ⟨ "TFlag", 171, 3, false, "", "", 20⟩, ⟨ "Align_", 5, 4, false, "", "", 21⟩, ⟨ "FieldAlign_", 5, 5, false, "", "", 22⟩, ⟨ "Kind_", 172, 6, false, "", "", 23⟩, ⟨ "Equal", 173, 7, false, "", "", 24⟩, ⟨ "GCData", 162, 8, false, "", "", 32⟩, ⟨ "Str", 174, 9, false, "", "", 40⟩, ⟨ "PtrToThis", 175, 10, false, "", "", 44⟩], 11, 48, .agg #[(.int .u64 0), (.int .u64 0), (.int .u32 0), (.int .u8 0), (.int .u8 0), (.int .u8 0), (.int .u8 0), .nilFunc, (.pointer none), (.int .i32 0), (.int .i32 0)]⟩ := rfl
theorem und177 : X.und 177 = some (.struct #[⟨ "Size_", 12, 0, false, "", "", 0⟩, ⟨ "PtrBytes", 12, 1, false, "", "", 8⟩, ⟨ "Hash", 157, 2, false, "", "", 16⟩, ⟨ "TFlag", 171, 3, false, "", "", 20⟩, ⟨ "Align_", 5, 4, false, "", "", 21⟩, ⟨ "FieldAlign_", 5, 5, false, "", "", 22⟩, ⟨ "Kind_", 172, 6, false, "", "", 23⟩, ⟨ "Equal", 173, 7, false, "", "", 24⟩, ⟨ "GCData", 162, 8, false, "", "", 32⟩, ⟨ "Str", 174, 9, false, "", "", 40⟩, ⟨ "PtrToThis", 175, 10, false, "", "", 44⟩]) := rfl
end Go.Proofs.Ytndedkpcfjnecaa.Ab
