/- Signs: what may be, and lists of them. -/
import Derived.Test.YtpckldhojfjdmaaD
import Derived.Test.YtpckldhojfjdmaaD3
namespace Go.Proofs.Ytpckldhojfjdmaa.Ab
open Go.Proofs
set_option maxRecDepth 100000
set_option maxHeartbeats 2000000
set_option linter.unusedSimpArgs false
set_option linter.unusedVariables false
def right (v : Int) : Bool := (decide (0 ≤ v) && decide (v ≤ 1114111) && (decide (v < 55296) || decide (57343 < v))) || (!(decide (0 ≤ v) && decide (v ≤ 1114111)) && (decide (1114240 ≤ v) && decide (v ≤ 1114367)))
/-- May a sign be? -/
def rightS (p : Int × Int) : Bool := right p.1 && decide (0 ≤ p.2) && decide (p.2 ≤ 5)
theorem take_snoc {α : Type} {l : List α} {i : Nat} {x : α} (h : l[i]? = some x) : l.take (i + 1) = l.take i ++ [x] := by rw [List.take_add_one, h]; rfl
variable {k : Nat → List Value → Option Value} (hk : ∀ f, f ≠ 19 → Open k f)
include hk
omit hk in
theorem flatsS {n : Nat} (l : List (Int × Int)) (h : l.length < 1000000) (hn : n < 1000000) : (l.map eS).flatten.length = l.length * 2 ∧ (l.map eS).flatten.all oneA = true ∧ roomOk (n + l.length) 16 = true :=
  ⟨flat_len_eS l, ones_map fun _ => rfl, room_ok ⟨by omega, by omega⟩⟩
def eLS (l : List (Int × Int)) : List AV := [LS l]
@[reducible] def LLS (ls : List (List (Int × Int))) : AV := .lst 1 (ls.map eLS)
omit hk in
/-- A slice with room behind it: appended to in place. -/
theorem Gr.room {s0 s : VS} {te : Ty} {e m n N b sz : Nat} {ws cs zs : List AV} {k : AV → VS → Prop} (hg : s.get b = some (.own ⟨cs ++ zs, e, 0, 0, false⟩)) (hb : s0.size ≤ b) (hk : KeepA s0 s) (hz : te.size = sz) (hc : cs.length = n * sz) (hl : (cs ++ zs).length = N * sz) (hw : ws.length = m * sz) (ho : ws.all oneA = true) (hN : n + m ≤ N)
    (hK : ∀ s', s'.get b = some (.own ⟨cs ++ ws ++ zs.drop (m * sz), e, 0, 0, false⟩) → KeepA s0 s' → s'.size = s.size → (∀ c, c ≠ b → s'.get c = s.get c) → k (.sl ⟨b, 0, none⟩ (n + m) (capO N)) s') : contA (appendToA te e m ws (.sl ⟨b, 0, none⟩ n (capO N)) s) k := by
  by_cases hm : m = 0
  · subst hm
    have hw0 : ws = [] := List.eq_nil_of_length_eq_zero (by omega)
    subst hw0
    have : appendToA te e 0 [] (.sl ⟨b, 0, none⟩ n (capO N)) s = some (.sl ⟨b, 0, none⟩ n (capO N), s) := by simp [appendToA]
    rw [this, ct_some]
    exact hK s (by simpa using hg) hk rfl fun _ _ => rfl
  · have h1 := VS.lt_of_get hg
    have hwl : n * sz + m * sz ≤ N * sz := by rw [← Nat.add_mul]; exact Nat.mul_le_mul_right _ hN
    have hwr : s.wr (Addr.fwd ⟨b, 0, none⟩ (n * te.size)) ws = some (s.set b (.own ⟨overA (cs ++ zs) (n * sz) ws, e, 0, 0, false⟩)) := by
      rw [fwd_mk, wr_mkA, hg, wv_own, hz, Nat.zero_add]
      exact if_pos ⟨rfl, by rw [hl, hw]; exact hwl, Nat.zero_le _, rfl, ho⟩
    have ha : appendToA te e m ws (.sl ⟨b, 0, none⟩ n (capO N)) s = some (.sl ⟨b, 0, none⟩ (n + m) (capO N), s.set b (.own ⟨overA (cs ++ zs) (n * sz) ws, e, 0, 0, false⟩)) := by
      simp only [appendToA, if_neg hm, capO_half, if_pos hN, hwr, Option.map_some]
    rw [ha, ct_some]
    refine hK _ ?_ (hk.set hb _) (vz_set _ _ _) fun c hne => gs_ne hne
    rw [gs_eq rfl h1, over_fill hc, hw]
def withL (n : Int) (p : Int × Int) : Int × Int := (p.1, n)
end Go.Proofs.Ytpckldhojfjdmaa.Ab
