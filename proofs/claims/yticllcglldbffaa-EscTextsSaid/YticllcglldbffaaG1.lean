/- strings.Builder: what it holds; WriteString, Len, String. -/
import Derived.Test.YticllcglldbffaaN1
import Derived.Test.YticllcglldbffaaDS
namespace Go.Proofs.Yticllcglldbffaa.Ab
open Go.Proofs
set_option maxRecDepth 100000
set_option maxHeartbeats 4000000
set_option linter.unusedSimpArgs false
set_option linter.unusedVariables false
set_option linter.unnecessarySimpa false
set_option linter.unusedSectionVars false
theorem ep_mk (b o : Nat) (sp : Option Nat) : ep ⟨b, o, sp⟩ = sp.getD 0 := rfl
attribute [push_cast] ep_mk
theorem bytesX_cB (l : List UInt8) : bytesX (l.map fun c => Value.int .u8 (c.toNat : Int)) = some l := by
  induction l with
  | nil => rfl
  | cons a l ih =>
    have := a.toNat_lt
    rw [List.map_cons, bytesX, if_pos ⟨by omega, by omega⟩, ih]
    simp
/-- A row of bytes that grows: nothing yet, a row of the run's own, or (g) one that was made with room. -/
inductive Bf (g : Bool) (s0 s : VS) : AV → List UInt8 → Prop
  | nil : Bf g s0 s (.c (.slice none 0 0)) []
  | grown (c : Nat) : g = true → s.get c = some (.own ⟨[], 5, 0, 0, false⟩) → s0.size ≤ c → Bf g s0 s (.sl ⟨c, 0, none⟩ 0 (capO 0)) []
  | row (c : Nat) (sp : Option Nat) (n : Nat) (l : List UInt8) : n = l.length → 0 < n → s.get c = some (.own ⟨l.map cB, 5, sp.getD 0, 0, false⟩) → s0.size ≤ c → Bf g s0 s (.sl ⟨c, 0, sp⟩ n (capO n)) l
/-- A strings.Builder at row b, and what it holds. -/
def Bd (g : Bool) (s0 s : VS) (b : Nat) (l : List UInt8) : Prop := ∃ p v, s.get b = some (.own ⟨[p, v], 45, 0, 0, false⟩) ∧ s0.size ≤ b ∧ (p = .c (.pointer none) ∨ p = .ptr ⟨b, 0, none⟩) ∧ Bf g s0 s v l
/-- All but row b, and rows of bytes, is as it was. -/
def Fb (s s' : VS) (b : Nat) : Prop := s.size ≤ s'.size ∧ ∀ c o, s.get c = some o → c ≠ b → (∀ r, o = .own r → r.elem ≠ 5) → s'.get c = some o ∧ s'.ver c = s.ver c
theorem Fb.refl (s : VS) (b : Nat) : Fb s s b := ⟨Nat.le_refl _, fun _ _ h _ _ => ⟨h, rfl⟩⟩
theorem Fb.trans {s s1 s2 : VS} {b : Nat} (h : Fb s s1 b) (k : Fb s1 s2 b) : Fb s s2 b := ⟨Nat.le_trans h.1 k.1, fun c o hc hb hr => by
  have h1 := h.2 c o hc hb hr
  have h2 := k.2 c o h1.1 hb hr
  exact ⟨h2.1, h2.2.trans h1.2⟩⟩
theorem Fb.get {s s' : VS} {b c : Nat} {o : VO} (h : Fb s s' b) (hc : s.get c = some o) (hb : c ≠ b) (hr : ∀ r, o = .own r → r.elem ≠ 5) : s'.get c = some o := (h.2 c o hc hb hr).1
theorem Bf.app {g : Bool} {s0 s : VS} {te : Ty} {v : AV} {l w : List UInt8} (h : Bf g s0 s v l) (hk : s0.size ≤ s.size) (hz : te.size = 1) (hr : roomOk (l.length + w.length) te.bytes = true) :
    ∃ v' s', appendToA te 5 w.length (w.map cB) v s = some (v', s') ∧ Bf g s0 s' v' (l ++ w) ∧ s.size ≤ s'.size ∧
      (∀ c o, s.get c = some o → (∀ r, o = .own r → r.elem ≠ 5) → s'.get c = some o ∧ s'.ver c = s.ver c) ∧ ∀ c, c < s0.size → s'.get c = s.get c ∧ s'.ver c = s.ver c := by
  by_cases hm : w = []
  · subst hm
    refine ⟨v, s, ?_, by rw [List.append_nil]; exact h, Nat.le_refl _, fun _ _ h _ => ⟨h, rfl⟩, fun _ _ => ⟨rfl, rfl⟩⟩
    cases h <;> simp [appendToA]
  · have hw : w.length ≠ 0 := by simpa using hm
    have hone : (w.map cB).all oneA = true := by simp [cB, oneA, Value.oneCell']
    cases h with
    | nil =>
      rw [List.length_nil, Nat.zero_add] at hr
      refine ⟨.sl ⟨s.size, 0, none⟩ w.length (capO w.length), s.push (.own ⟨w.map cB, 5, 0, 0, false⟩), by simp only [appendToA, if_neg hw]; rw [if_pos hr], ?_, by rw [vz_push]; omega, fun c o hc _ => ⟨by rw [gp_ne (by have := VS.lt_of_get hc; omega)]; exact hc, rfl⟩, fun c hc => ⟨gp_ne (by omega), rfl⟩⟩
      exact .row s.size none w.length w rfl (by omega) (gp_eq rfl) hk
    | grown c hg h1 h2 =>
      have hb := VS.lt_of_get h1
      rw [List.length_nil, Nat.zero_add] at hr
      have hc : roomOk w.length te.bytes = true ∧ ep (⟨c, 0, none⟩ : Addr) = 0 ∧ (⟨c, 0, none⟩ : Addr).off = 0 ∧ ([] : List AV).length = 0 * te.size ∧ 5 = 5 ∧ (w.map cB).all oneA = true ∧ 0 ≤ 0 * te.size ∧ false = false := ⟨hr, rfl, rfl, by simp, rfl, hone, Nat.zero_le _, rfl⟩
      refine ⟨.sl ⟨c, 0, some 1⟩ w.length (capO w.length), s.set c (.own ⟨w.map cB, 5, 1, 0, false⟩), ?_, .row c (some 1) w.length w rfl (by omega) (gs_eq rfl hb) h2, by rw [vz_set]; exact Nat.le_refl _, ?_, ?_⟩
      · simp only [appendToA, if_neg hw, capO_half, capO_mod]
        rw [if_neg (by omega), if_neg (by omega)]
        simp only [h1]
        simp only [Nat.zero_add, List.nil_append]
        exact if_pos (by simpa using hc)
      · intro d o hd hr2
        have : d ≠ c := by
          rintro rfl
          rw [h1] at hd
          cases hd
          exact hr2 _ rfl rfl
        exact ⟨by rw [gs_ne this]; exact hd, vs_ver this⟩
      · intro d hd
        have : d ≠ c := by omega
        exact ⟨gs_ne this, vs_ver this⟩
    | row c sp n l hn hp h1 h2 =>
      have hb := VS.lt_of_get h1
      subst hn
      have hc : roomOk (l.length + w.length) te.bytes = true ∧ ep (⟨c, 0, sp⟩ : Addr) = sp.getD 0 ∧ (⟨c, 0, sp⟩ : Addr).off = 0 ∧ (l.map cB).length = l.length * te.size ∧ 5 = 5 ∧ (w.map cB).all oneA = true ∧ 0 ≤ l.length * te.size ∧ false = false := ⟨hr, rfl, rfl, by rw [hz]; simp, rfl, hone, Nat.zero_le _, rfl⟩
      refine ⟨.sl ⟨c, 0, some (sp.getD 0 + 1)⟩ (l.length + w.length) (capO (l.length + w.length)), s.set c (.own ⟨(l.map cB) ++ (w.map cB), 5, sp.getD 0 + 1, 0, false⟩), ?_, ?_, by rw [vz_set]; exact Nat.le_refl _, ?_, ?_⟩
      · simp only [appendToA, if_neg hw, capO_half, capO_mod]
        rw [if_neg (by omega), if_neg (by omega)]
        simp only [h1]
        exact if_pos (by simpa using hc)
      · refine .row c (some (sp.getD 0 + 1)) (l.length + w.length) (l ++ w) (by simp) (by omega) ?_ h2
        rw [List.map_append]
        exact gs_eq rfl hb
      · intro d o hd hr2
        have : d ≠ c := by
          rintro rfl
          rw [h1] at hd
          cases hd
          exact hr2 _ rfl rfl
        exact ⟨by rw [gs_ne this]; exact hd, vs_ver this⟩
      · intro d hd
        have : d ≠ c := by omega
        exact ⟨gs_ne this, vs_ver this⟩
theorem Bf.isV {g : Bool} {s0 s : VS} {v : AV} {l : List UInt8} (h : Bf g s0 s v l) : v = .c (.slice none 0 0) ∨ ∃ a n c, v = .sl a n c := by
  cases h with
  | nil => exact .inl rfl
  | grown c hg h1 h2 => exact .inr ⟨_, _, _, rfl⟩
  | row c sp n l hn hp h1 h2 => exact .inr ⟨_, _, _, rfl⟩
/-- A Builder that is new. -/
theorem Bd.new {g : Bool} {s0 s : VS} (h : s0.size ≤ s.size) : Bd g s0 (s.push (.own ⟨[.c (.pointer none), .c (.slice none 0 0)], 45, 0, 0, false⟩)) s.size [] := ⟨_, _, gp_eq rfl, h, .inl rfl, .nil⟩
theorem Bf.fr {g : Bool} {s0 s s' : VS} {v : AV} {l : List UInt8} (h : Bf g s0 s v l) (k : ∀ c r, s.get c = some (.own r) → r.elem = 5 → s'.get c = s.get c) : Bf g s0 s' v l := by
  cases h with
  | nil => exact .nil
  | grown c hg h1 h2 => exact .grown c hg (by rw [k c _ h1 rfl]; exact h1) h2
  | row c sp n l hn hp h1 h2 => exact .row c sp n l hn hp (by rw [k c _ h1 rfl]; exact h1) h2
theorem Bd.push {g : Bool} {s0 s : VS} {b : Nat} {l : List UInt8} (h : Bd g s0 s b l) (o : VO) : Bd g s0 (s.push o) b l := by
  obtain ⟨p, v, h1, h2, h3, h4⟩ := h
  refine ⟨p, v, by rw [gp_ne (by have := VS.lt_of_get h1; omega)]; exact h1, h2, h3, h4.fr fun c r hc _ => gp_ne (by have := VS.lt_of_get hc; omega)⟩
theorem Bd.set {g : Bool} {s0 s : VS} {b c : Nat} {l : List UInt8} {o1 : VO} (h : Bd g s0 s b l) (hc : s.get c = some o1) (hb : c ≠ b) (hr : ∀ r, o1 = .own r → r.elem ≠ 5) (o : VO) : Bd g s0 (s.set c o) b l := by
  obtain ⟨p, v, h1, h2, h3, h4⟩ := h
  refine ⟨p, v, by rw [gs_ne (fun e => hb e.symm)]; exact h1, h2, h3, h4.fr fun d r hd he => gs_ne ?_⟩
  rintro rfl
  rw [hc] at hd
  cases hd
  exact hr r rfl he
theorem Bd.lt {g : Bool} {s0 s : VS} {b : Nat} {l : List UInt8} (h : Bd g s0 s b l) : s0.size ≤ b ∧ b < s.size := by
  obtain ⟨p, v, h1, h2, h3, h4⟩ := h
  exact ⟨h2, VS.lt_of_get h1⟩
section
variable {k : Nat → List Value → Option Value} (hk : ∀ f, f ≠ 32 → f ≠ 51 → Open k f)
include hk
theorem sbCheck_ok {g : Bool} {s0 s : VS} {b : Nat} {l : List UInt8} (h : Bd g s0 s b l) {K : AV → VS → Prop}
    (hK : ∀ s' v, s'.get b = some (.own ⟨[.ptr ⟨b, 0, none⟩, v], 45, 0, 0, false⟩) → Bf g s0 s' v l → s.size = s'.size → (∀ c, c ≠ b → s'.get c = s.get c ∧ s'.ver c = s.ver c) → K (.tup []) s') : VC (XK k) 29 [.ptr ⟨b, 0, none⟩] s K := by
  refine f29_in (hk _ (by decide) (by decide)) ?_
  obtain ⟨p, v, h1, h2, h3, h4⟩ := h
  have hb := VS.lt_of_get h1
  rcases h3 with rfl | rfl
  · simp -implicitDefEqProofs (maxSteps := 2000000) (disch := first | omega | (simp only [vz_push, vz_set, drop_size]; first | done | omega)) only [push_cast, seval, f29N0, h1]
    refine VC_same (hk _ (by decide) (by decide)).at (by kernel_rfl : (XK k).fn 41 = some Try.f41) (by kernel_rfl) (by kernel_rfl) ?_
    simp -implicitDefEqProofs (maxSteps := 2000000) (disch := first | omega | (simp only [vz_push, vz_set, drop_size]; first | done | omega)) only [push_cast, seval, f29N0, h1]
    refine hK _ v (gs_eq rfl hb) (h4.fr fun c r hc he => gs_ne ?_) rfl (fun c hc => ⟨gs_ne hc, vs_ver hc⟩)
    rintro rfl
    rw [h1] at hc
    cases hc
    exact absurd (show (45 : Nat) = 5 from he) (by decide)
  · simp -implicitDefEqProofs (maxSteps := 2000000) (disch := first | omega | (simp only [vz_push, vz_set, drop_size]; first | done | omega)) only [push_cast, seval, f29N0, h1]
    exact hK s v h1 h4 rfl (fun c hc => ⟨rfl, rfl⟩)
theorem sbWrite_ok {g : Bool} {s0 s : VS} {b : Nat} {l : List UInt8} (h : Bd g s0 s b l) (w : List UInt8) (hl : l.length + w.length ≤ 70368744177664) {K : AV → VS → Prop}
    (hK : ∀ s' r, Bd g s0 s' b (l ++ w) → Fb s s' b → (KeepA s0 s → KeepA s0 s') → K r s') : VC (XK k) 19 [.ptr ⟨b, 0, none⟩, tx w] s K := by
  refine f19_in (hk _ (by decide) (by decide)) ?_
  have hbs := h.lt
  simp -implicitDefEqProofs (maxSteps := 2000000) (disch := first | omega | (simp only [vz_push, vz_set, drop_size]; first | done | omega)) only [push_cast, seval, f19N0]
  refine sbCheck_ok hk h ?_
  intro s1 v h1 h2 h3 h4
  have hb := VS.lt_of_get h1
  obtain ⟨v', s2, q1, q2, q3, q4, q5⟩ := h2.app (te := ⟨.int .u8, 1, 1, .int .u8 0⟩) (w := w) (by omega) rfl (room_ok (by constructor <;> (try dsimp only) <;> omega))
  have h5 := (q4 b _ h1 (fun r hr => by cases hr; exact (by decide : (45 : Nat) ≠ 5)))
  have hb2 := VS.lt_of_get h5.1
  have fin : ∀ r, K r (s2.set b (.own ⟨[.ptr ⟨b, 0, none⟩, v'], 45, 0, 0, false⟩)) := fun r => by
    refine hK _ r ⟨.ptr ⟨b, 0, none⟩, v', gs_eq rfl hb2, hbs.1, .inr rfl, q2.fr fun c r hc he => gs_ne ?_⟩ ⟨by rw [vz_set]; omega, fun c o hc hne hr => ?_⟩ fun hk0 => ?_
    · rintro rfl
      rw [h5.1] at hc
      cases hc
      exact absurd (show (45 : Nat) = 5 from he) (by decide)
    · have e1 := h4 c hne
      have e2 := q4 c o (by rw [e1.1]; exact hc) hr
      exact ⟨by rw [gs_ne hne]; exact e2.1, by rw [vs_ver hne, e2.2, e1.2]⟩
    · refine ⟨by rw [vz_set]; omega, fun c hc => ?_⟩
      have hne : c ≠ b := by omega
      have e1 := h4 c hne
      have e2 := q5 c hc
      have e3 := hk0.2 c hc
      exact ⟨by rw [gs_ne hne, e2.1, e1.1, e3.1], by rw [vs_ver hne, e2.2, e1.2, e3.2]⟩
  rcases q2.isV with rfl | ⟨a, n, c, rfl⟩
  · simp -implicitDefEqProofs (maxSteps := 2000000) (disch := first | omega | (simp only [vz_push, vz_set, drop_size]; first | done | omega)) only [push_cast, seval, f19N0, h1, q1, h5.1, bytesOut_eq]
    exact fin _
  · simp -implicitDefEqProofs (maxSteps := 2000000) (disch := first | omega | (simp only [vz_push, vz_set, drop_size]; first | done | omega)) only [push_cast, seval, f19N0, h1, q1, h5.1, bytesOut_eq]
    exact fin _
theorem sbLen_ok {g : Bool} {s0 s : VS} {b : Nat} {l : List UInt8} (h : Bd g s0 s b l) {K : AV → VS → Prop} (hK : K (.c (.int .i64 l.length)) s) : VC (XK k) 45 [.ptr ⟨b, 0, none⟩] s K := by
  refine f45_in (hk _ (by decide) (by decide)) ?_
  obtain ⟨p, v, h1, h2, h3, h4⟩ := h
  cases h4 with
  | nil =>
    simp -implicitDefEqProofs (maxSteps := 2000000) (disch := first | omega | (simp only [vz_push, vz_set, drop_size]; first | done | omega)) only [push_cast, seval, f45N0, h1]
    exact hK
  | grown c hg q1 q2 =>
    simp -implicitDefEqProofs (maxSteps := 2000000) (disch := first | omega | (simp only [vz_push, vz_set, drop_size]; first | done | omega)) only [push_cast, seval, f45N0, h1]
    exact hK
  | row c sp n l hn hp q1 q2 =>
    subst hn
    simp -implicitDefEqProofs (maxSteps := 2000000) (disch := first | omega | (simp only [vz_push, vz_set, drop_size]; first | done | omega)) only [push_cast, seval, f45N0, h1]
    exact hK
theorem sbString_ok {g : Bool} {s0 s : VS} {b : Nat} {l : List UInt8} (h : Bd g s0 s b l) (hg : g = false ∨ l ≠ []) (hl : l.length ≤ 70368744177664) {K : AV → VS → Prop}
    (hK : ∀ s', Fb s s' b → (KeepA s0 s → KeepA s0 s') → K (tx l) s') : VC (XK k) 21 [.ptr ⟨b, 0, none⟩] s K := by
  refine f21_in (hk _ (by decide) (by decide)) ?_
  obtain ⟨p, v, h1, h2, h3, h4⟩ := h
  have hb := VS.lt_of_get h1
  cases h4 with
  | nil =>
    simp -implicitDefEqProofs (maxSteps := 2000000) (disch := first | omega | (simp only [vz_push, vz_set, drop_size]; first | done | omega)) only [push_cast, seval, f21N0, h1]
    exact hK s (Fb.refl _ _) id
  | grown c hg2 q1 q2 =>
    rcases hg with rfl | hg
    · cases hg2
    · exact absurd rfl hg
  | row c sp n l hn hp q1 q2 =>
    subst hn
    have hc := VS.lt_of_get q1
    have htk : List.take l.length (l.map cB) = l.map cB := List.take_of_length_le (by simp)
    have hroom : roomOk l.length 1 = true := (room_ok (by constructor <;> (try dsimp only) <;> omega))
    have hz : (l.length = 0) = False := eq_false (by omega)
    have hz2 : ((l.length : Int) = 0) = False := eq_false (by omega)
    have hi : ((l.length : Int) ≤ (l.length : Int)) = True := eq_true (Int.le_refl _)
    simp -implicitDefEqProofs (maxSteps := 2000000) (disch := first | omega | (simp only [vz_push, vz_set, drop_size]; first | done | omega)) only [push_cast, seval, f21N0, h1, q1, htk, bytesX_cB, hroom, hz, hz2, hi]
    refine hK _ ⟨by rw [vz_set]; exact Nat.le_refl _, fun d o hd hne hr => ?_⟩ fun hk0 => hk0.set q2 _
    have hdc : d ≠ c := by
      rintro rfl
      rw [q1] at hd
      cases hd
      exact hr _ rfl rfl
    exact ⟨by rw [gs_ne hdc]; exact hd, vs_ver hdc⟩
end
end Go.Proofs.Yticllcglldbffaa.Ab
