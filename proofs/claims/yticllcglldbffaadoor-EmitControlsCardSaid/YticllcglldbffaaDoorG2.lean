import Derived.Test.YticllcglldbffaaDoorN1
import Derived.Lib.Bytealg
namespace Go.Proofs.YticllcglldbffaaDoor.Ab
set_option linter.unusedVariables false
set_option linter.unusedSimpArgs false
def szB (a : UInt8) : Nat := if a.toNat < 128 then 1 else if 194 ≤ a.toNat ∧ a.toNat ≤ 223 then 2 else if 224 ≤ a.toNat ∧ a.toNat ≤ 239 then 3 else if 240 ≤ a.toNat ∧ a.toNat ≤ 244 then 4 else 0
def aaZ (c : UInt8) : Bool := decide (128 ≤ c.toNat ∧ c.toNat ≤ 191)
def dA (a c : UInt8) (i : Nat) : Bool := aaZ c && (decide (1 < i) || !(decide (a.toNat = 224 ∧ c.toNat < 160) || decide (a.toNat = 237 ∧ 159 < c.toNat) || decide (a.toNat = 240 ∧ c.toNat < 144) || decide (a.toNat = 244 ∧ 143 < c.toNat)))
def ic (a : UInt8) : Nat → List UInt8 → Nat
  | i, [] => i
  | i, c :: l => if i < szB a ∧ dA a c i = true then ic a (i + 1) l else i
def iY (v : Int) (c : UInt8) : Int := v * 64 + (c.toNat : Int) - 128
def ko (n : Nat) : Int := if n = 2 then 192 else if n = 3 then 224 else if n = 4 then 240 else 0
def aU : List UInt8 → Int × Nat
  | [] => (0, 0)
  | a :: l => if ic a 1 l = szB a then ((l.take (szB a - 1)).foldl iY ((a.toNat : Int) - ko (szB a)), szB a) else (1114112 + (a.toNat : Int), 1)
theorem dL (a : UInt8) (l : List UInt8) : aU (a :: l) = if ic a 1 l = szB a then ((l.take (szB a - 1)).foldl iY ((a.toNat : Int) - ko (szB a)), szB a) else (1114112 + (a.toNat : Int), 1) := rfl
theorem Ga (a : UInt8) : ∀ (l : List UInt8) (i : Nat), i ≤ ic a i l
  | [], i => Nat.le_refl _
  | c :: l, i => by
    rw [ic]
    split
    · have := Ga a l (i + 1); omega
    · exact Nat.le_refl _
theorem nX (a : UInt8) : ∀ (l : List UInt8) (i : Nat), ic a i l ≤ i + l.length
  | [], i => by simp [ic]
  | c :: l, i => by
    rw [ic, List.length_cons]
    split
    · have := nX a l (i + 1); omega
    · omega
theorem H2 (a : UInt8) (l : List UInt8) : 1 ≤ (aU (a :: l)).2 ∧ (aU (a :: l)).2 ≤ l.length + 1 := by
  have h1 := Ga a l 1
  have h2 := nX a l 1
  rw [dL]
  split <;> simp only <;> omega
theorem bI {s : List UInt8} (h : s ≠ []) : 1 ≤ (aU s).2 ∧ (aU s).2 ≤ s.length := by
  cases s with
  | nil => exact absurd rfl h
  | cons a l => exact H2 a l
def a8 (s : List UInt8) : List Int := if h : s = [] then [] else (aU s).1 :: a8 (s.drop (aU s).2)
termination_by s.length
decreasing_by
  have h1 := bI h
  have : 0 < s.length := List.length_pos_iff.2 h
  rw [List.length_drop]
  omega
theorem dD : a8 [] = [] := by rw [a8, dif_pos rfl]
theorem br {s : List UInt8} (h : s ≠ []) : a8 s = (aU s).1 :: a8 (s.drop (aU s).2) := by rw [a8, dif_neg h]
theorem fo {P : List UInt8 → Prop} (h0 : P []) (h1 : ∀ s, s ≠ [] → P (s.drop (aU s).2) → P s) : ∀ s, P s := by
  intro s
  generalize hn : s.length = n
  induction n using Nat.strongRecOn generalizing s with
  | _ n ih =>
    by_cases h : s = []
    · subst h; exact h0
    · have h2 := bI h
      have : 0 < s.length := List.length_pos_iff.2 h
      exact h1 s h (ih _ (by subst hn; rw [List.length_drop]; omega) _ rfl)
theorem eC : ∀ s, (a8 s).length ≤ s.length := by
  refine fo (by rw [dD]; simp) fun s h ih => ?_
  have h2 := bI h
  rw [br h, List.length_cons]
  rw [List.length_drop] at ih
  omega
theorem fj (a : UInt8) (l : List UInt8) : ic a 1 l = match szB a with
    | 2 => if dA a (l.getD 0 0) 1 = true then 2 else 1
    | 3 => if dA a (l.getD 0 0) 1 = true then (if dA a (l.getD 1 0) 2 = true then 3 else 2) else 1
    | 4 => if dA a (l.getD 0 0) 1 = true then (if dA a (l.getD 1 0) 2 = true then (if dA a (l.getD 2 0) 3 = true then 4 else 3) else 2) else 1
    | _ => 1 := by
  have hz : ∀ i, dA a 0 i = false := fun i => by unfold dA aaZ; simp
  have hsz : szB a = 0 ∨ szB a = 1 ∨ szB a = 2 ∨ szB a = 3 ∨ szB a = 4 := by unfold szB; (repeat' split) <;> simp
  rcases hsz with h | h | h | h | h
  all_goals
    rw [h]
    rcases l with _ | ⟨b, _ | ⟨c, _ | ⟨e, l⟩⟩⟩ <;> simp [ic, h, hz]
  all_goals
    (try (cases l <;> simp [ic, h]))
def dcd (l : List UInt8) : Nat × Nat :=
  let at' (k : Nat) : Nat := (l.getD k 0).toNat
  let cont (k : Nat) : Bool := at' k / 64 == 2
  let b0 := at' 0
  if b0 < 0x80 then (b0, 1)
  else if b0 / 32 == 6 && cont 1 then
    let c := (b0 % 32) * 64 + at' 1 % 64
    if c ≥ 0x80 then (c, 2) else (Utf8.runeError, 1)
  else if b0 / 16 == 14 && cont 1 && cont 2 then
    let c := (b0 % 16) * 4096 + (at' 1 % 64) * 64 + at' 2 % 64
    if c ≥ 0x800 && Utf8.valid c then (c, 3) else (Utf8.runeError, 1)
  else if b0 / 8 == 30 && cont 1 && cont 2 && cont 3 then
    let c := (b0 % 8) * 262144 + (at' 1 % 64) * 4096 + (at' 2 % 64) * 64 + at' 3 % 64
    if c ≥ 0x10000 && Utf8.valid c then (c, 4) else (Utf8.runeError, 1)
  else (Utf8.runeError, 1)
theorem axV (l : List UInt8) (i : Nat) : (ByteArray.mk l.toArray).get! i = l.getD i 0 := by
  show l.toArray[i]! = l.getD i 0
  by_cases h : i < l.length
  · rw [getElem!_pos l.toArray i (by simpa using h)]
    simp [List.getD, h]
  · rw [getElem!_neg l.toArray i (by simpa using h)]
    simp [List.getD, List.getElem?_eq_none (Nat.le_of_not_lt h)]
    rfl
theorem Ky (l : List UInt8) (pos : Nat) : Utf8.decode ⟨l.toArray⟩ pos = dcd (l.drop pos) := by
  have e : ∀ k, (ByteArray.mk l.toArray).get! (pos + k) = (l.drop pos).getD k 0 := fun k => by
    rw [axV]
    simp [List.getD]
  have c : ∀ k, (decide (pos + k < (ByteArray.mk l.toArray).size) && ((l.drop pos).getD k 0).toNat / 64 == 2) = (((l.drop pos).getD k 0).toNat / 64 == 2) := fun k => by
    by_cases h : pos + k < (ByteArray.mk l.toArray).size
    · rw [decide_eq_true h, Bool.true_and]
    · rw [decide_eq_false h, Bool.false_and]
      have : (l.drop pos).getD k 0 = 0 := by
        have hl : l.length ≤ pos + k := by simpa [ByteArray.size] using h
        simp [List.getD, List.getElem?_eq_none hl]
      rw [this]
      rfl
  unfold Utf8.decode dcd
  simp only [e, c]
def bN (v : Int) : Int := if 1114112 ≤ v then 65533 else v
theorem bt (a c : UInt8) (i : Nat) : dA a c i = true ↔ 128 ≤ c.toNat ∧ c.toNat ≤ 191 ∧ (1 < i ∨ ¬ (a.toNat = 224 ∧ c.toNat < 160) ∧ ¬ (a.toNat = 237 ∧ 159 < c.toNat) ∧ ¬ (a.toNat = 240 ∧ c.toNat < 144) ∧ ¬ (a.toNat = 244 ∧ 143 < c.toNat)) := by
  unfold dA aaZ
  simp only [Bool.and_eq_true, decide_eq_true_eq, Bool.or_eq_true, Bool.not_eq_true', Bool.or_eq_false_iff, decide_eq_false_iff_not]
  omega
theorem d7 (s : List UInt8) (h : s ≠ []) : (∃ v r, 0 ≤ v ∧ v ≤ 1114111 ∧ (v < 55296 ∨ 57343 < v) ∧ s = bv v ++ r ∧ aU s = (v, (bv v).length)) ∨
    (∃ a r, s = a :: r ∧ 128 ≤ a.toNat ∧ ic a 1 r ≠ szB a ∧ aU s = (1114112 + (a.toNat : Int), 1)) := by
  cases s with
  | nil => exact absurd rfl h
  | cons a l =>
    by_cases hc : ic a 1 l = szB a
    · left
      have ho : aU (a :: l) = ((l.take (szB a - 1)).foldl iY ((a.toNat : Int) - ko (szB a)), szB a) := by rw [dL, if_pos hc]
      have hlen := nX a l 1
      rw [fj] at hc
      have ha := a.toNat_lt
      have hofn : ∀ (c : UInt8) (n : Nat), n = c.toNat → UInt8.ofNat n = c := fun c n h => by subst h; exact UInt8.ofNat_toNat
      by_cases h1 : a.toNat < 128
      · have hs : szB a = 1 := by unfold szB; rw [if_pos h1]
        rw [hs] at ho
        have e : bv (a.toNat : Int) = [a] := by
          unfold bv
          rw [if_pos (by omega), hofn a _ (by omega)]
        refine ⟨a.toNat, l, by omega, by omega, by omega, by rw [e]; rfl, ?_⟩
        rw [ho, e]
        simp [ko]
      · by_cases h2 : 194 ≤ a.toNat ∧ a.toNat ≤ 223
        · have hs : szB a = 2 := by unfold szB; rw [if_neg h1, if_pos h2]
          rw [hs] at ho hc
          simp only at hc
          have hl2 : 1 ≤ l.length := by
            rw [fj, hs] at hlen
            simp only at hlen
            rw [hc] at hlen
            omega
          obtain ⟨b, l2, rfl⟩ : ∃ b l2, l = b :: l2 := by cases l with | nil => simp at hl2 | cons b l2 => exact ⟨b, l2, rfl⟩
          simp only [List.getD_cons_zero] at hc
          have hm : dA a b 1 = true := by
            cases hq : dA a b 1 with
            | true => rfl
            | false => rw [hq] at hc; simp at hc
          rw [bt] at hm
          obtain ⟨m1, m2, _⟩ := hm
          have e : bv (((a.toNat : Int) - 192) * 64 + b.toNat - 128) = [a, b] := by
            unfold bv
            rw [if_neg (by omega), if_pos (by omega), hofn a _ (by omega), hofn b _ (by omega)]
          refine ⟨((a.toNat : Int) - 192) * 64 + b.toNat - 128, l2, by omega, by omega, by omega, by rw [e]; rfl, ?_⟩
          rw [ho, e]
          simp [ko, iY]
        · by_cases h3 : 224 ≤ a.toNat ∧ a.toNat ≤ 239
          · have hs : szB a = 3 := by unfold szB; rw [if_neg h1, if_neg h2, if_pos h3]
            rw [hs] at ho hc
            simp only at hc
            have hl2 : 2 ≤ l.length := by
              rw [fj, hs] at hlen
              simp only at hlen
              rw [hc] at hlen
              omega
            obtain ⟨b, c, l2, rfl⟩ : ∃ b c l2, l = b :: c :: l2 := by
              rcases l with _ | ⟨b, _ | ⟨c, l2⟩⟩
              · simp at hl2
              · simp at hl2
              · exact ⟨b, c, l2, rfl⟩
            simp only [List.getD_cons_zero, List.getD_cons_succ] at hc
            have hm : dA a b 1 = true := by
              cases hq : dA a b 1 with
              | true => rfl
              | false => rw [hq] at hc; simp at hc
            have hm2 : dA a c 2 = true := by
              cases hq : dA a c 2 with
              | true => rfl
              | false => rw [hm, hq] at hc; simp at hc
            rw [bt] at hm hm2
            obtain ⟨m1, m2, m3⟩ := hm
            obtain ⟨n1, n2, _⟩ := hm2
            have e : bv ((((a.toNat : Int) - 224) * 64 + b.toNat - 128) * 64 + c.toNat - 128) = [a, b, c] := by
              unfold bv
              rw [if_neg (by omega), if_neg (by omega), if_pos (by omega), hofn a _ (by omega), hofn b _ (by omega), hofn c _ (by omega)]
            refine ⟨(((a.toNat : Int) - 224) * 64 + b.toNat - 128) * 64 + c.toNat - 128, l2, by omega, by omega, by omega, by rw [e]; rfl, ?_⟩
            rw [ho, e]
            simp [ko, iY]
          · by_cases h4 : 240 ≤ a.toNat ∧ a.toNat ≤ 244
            · have hs : szB a = 4 := by unfold szB; rw [if_neg h1, if_neg h2, if_neg h3, if_pos h4]
              rw [hs] at ho hc
              simp only at hc
              have hl2 : 3 ≤ l.length := by
                rw [fj, hs] at hlen
                simp only at hlen
                rw [hc] at hlen
                omega
              obtain ⟨b, c, d, l2, rfl⟩ : ∃ b c d l2, l = b :: c :: d :: l2 := by
                rcases l with _ | ⟨b, _ | ⟨c, _ | ⟨d, l2⟩⟩⟩
                · simp at hl2
                · simp at hl2
                · simp at hl2
                · exact ⟨b, c, d, l2, rfl⟩
              simp only [List.getD_cons_zero, List.getD_cons_succ] at hc
              have hm : dA a b 1 = true := by
                cases hq : dA a b 1 with
                | true => rfl
                | false => rw [hq] at hc; simp at hc
              have hm2 : dA a c 2 = true := by
                cases hq : dA a c 2 with
                | true => rfl
                | false => rw [hm, hq] at hc; simp at hc
              have hm3 : dA a d 3 = true := by
                cases hq : dA a d 3 with
                | true => rfl
                | false => rw [hm, hm2, hq] at hc; simp at hc
              rw [bt] at hm hm2 hm3
              obtain ⟨m1, m2, m3⟩ := hm
              obtain ⟨n1, n2, _⟩ := hm2
              obtain ⟨o1, o2, _⟩ := hm3
              have e : bv (((((a.toNat : Int) - 240) * 64 + b.toNat - 128) * 64 + c.toNat - 128) * 64 + d.toNat - 128) = [a, b, c, d] := by
                unfold bv
                rw [if_neg (by omega), if_neg (by omega), if_neg (by omega), if_pos (by omega), hofn a _ (by omega), hofn b _ (by omega), hofn c _ (by omega), hofn d _ (by omega)]
              refine ⟨((((a.toNat : Int) - 240) * 64 + b.toNat - 128) * 64 + c.toNat - 128) * 64 + d.toNat - 128, l2, by omega, by omega, by omega, by rw [e]; rfl, ?_⟩
              rw [ho, e]
              simp [ko, iY]
            · have hs : szB a = 0 := by unfold szB; rw [if_neg h1, if_neg h2, if_neg h3, if_neg h4]
              rw [hs] at hc
              simp at hc
    · right
      refine ⟨a, l, rfl, ?_, hc, by rw [dL, if_neg hc]⟩
      by_cases h1 : a.toNat < 128
      · have hs : szB a = 1 := by unfold szB; rw [if_pos h1]
        exact absurd (by rw [fj, hs]; rfl) hc
      · omega
theorem aR {n : Nat} (h : n < 256) : (UInt8.ofNat n).toNat = n := UInt8.toNat_ofNat_of_lt' (by simpa using h)
theorem jb {v : Int} (h0 : 0 ≤ v) (h1 : v ≤ 1114111) (h2 : v < 55296 ∨ 57343 < v) (r : List UInt8) : aU (bv v ++ r) = (v, (bv v).length) := by
  by_cases c1 : v < 128
  · have e : bv v = [UInt8.ofNat v.toNat] := by unfold bv; rw [if_pos c1]
    have ha := aR (n := v.toNat) (by omega)
    rw [e]
    generalize UInt8.ofNat v.toNat = a at *
    have hs : szB a = 1 := by unfold szB; rw [if_pos (by omega)]
    simp only [List.cons_append, List.nil_append]
    rw [dL, if_pos (by rw [fj, hs]; rfl), hs]
    simp [ko]
    omega
  · by_cases c2 : v < 2048
    · have e : bv v = [UInt8.ofNat (192 + v.toNat / 64), UInt8.ofNat (128 + v.toNat % 64)] := by unfold bv; rw [if_neg c1, if_pos c2]
      have ha := aR (n := 192 + v.toNat / 64) (by omega)
      have hb := aR (n := 128 + v.toNat % 64) (by omega)
      rw [e]
      generalize UInt8.ofNat (192 + v.toNat / 64) = a at *
      generalize UInt8.ofNat (128 + v.toNat % 64) = b at *
      have hs : szB a = 2 := by unfold szB; rw [if_neg (by omega), if_pos (by omega)]
      have hm : dA a b 1 = true := by rw [bt]; omega
      simp only [List.cons_append, List.nil_append]
      rw [dL, if_pos (by rw [fj, hs]; simp [hm]), hs]
      simp [ko, iY]
      omega
    · by_cases c3 : v < 65536
      · have e : bv v = [UInt8.ofNat (224 + v.toNat / 4096), UInt8.ofNat (128 + v.toNat / 64 % 64), UInt8.ofNat (128 + v.toNat % 64)] := by unfold bv; rw [if_neg c1, if_neg c2, if_pos c3]
        have ha := aR (n := 224 + v.toNat / 4096) (by omega)
        have hb := aR (n := 128 + v.toNat / 64 % 64) (by omega)
        have hc := aR (n := 128 + v.toNat % 64) (by omega)
        rw [e]
        generalize UInt8.ofNat (224 + v.toNat / 4096) = a at *
        generalize UInt8.ofNat (128 + v.toNat / 64 % 64) = b at *
        generalize UInt8.ofNat (128 + v.toNat % 64) = c at *
        have hs : szB a = 3 := by unfold szB; rw [if_neg (by omega), if_neg (by omega), if_pos (by omega)]
        have hm : dA a b 1 = true := by rw [bt]; omega
        have hm2 : dA a c 2 = true := by rw [bt]; omega
        simp only [List.cons_append, List.nil_append]
        rw [dL, if_pos (by rw [fj, hs]; simp [hm, hm2]), hs]
        simp [ko, iY]
        omega
      · have e : bv v = [UInt8.ofNat (240 + v.toNat / 262144), UInt8.ofNat (128 + v.toNat / 4096 % 64), UInt8.ofNat (128 + v.toNat / 64 % 64), UInt8.ofNat (128 + v.toNat % 64)] := by unfold bv; rw [if_neg c1, if_neg c2, if_neg c3, if_pos h1]
        have ha := aR (n := 240 + v.toNat / 262144) (by omega)
        have hb := aR (n := 128 + v.toNat / 4096 % 64) (by omega)
        have hc := aR (n := 128 + v.toNat / 64 % 64) (by omega)
        have hd := aR (n := 128 + v.toNat % 64) (by omega)
        rw [e]
        generalize UInt8.ofNat (240 + v.toNat / 262144) = a at *
        generalize UInt8.ofNat (128 + v.toNat / 4096 % 64) = b at *
        generalize UInt8.ofNat (128 + v.toNat / 64 % 64) = c at *
        generalize UInt8.ofNat (128 + v.toNat % 64) = d at *
        have hs : szB a = 4 := by unfold szB; rw [if_neg (by omega), if_neg (by omega), if_neg (by omega), if_pos (by omega)]
        have hm : dA a b 1 = true := by rw [bt]; omega
        have hm2 : dA a c 2 = true := by rw [bt]; omega
        have hm3 : dA a d 3 = true := by rw [bt]; omega
        simp only [List.cons_append, List.nil_append]
        rw [dL, if_pos (by rw [fj, hs]; simp [hm, hm2, hm3]), hs]
        simp [ko, iY]
        omega
theorem amF {v : Int} (h0 : 0 ≤ v) (h1 : v ≤ 1114111) (h2 : v < 55296 ∨ 57343 < v) (r : List UInt8) : dcd (bv v ++ r) = (v.toNat, (bv v).length) := by
  have hval : ∀ n : Nat, n = v.toNat → Utf8.valid (n : Int) = true := fun n hn => by
    unfold Utf8.valid
    simp only [Bool.or_eq_true, Bool.and_eq_true, decide_eq_true_eq]
    omega
  by_cases c1 : v < 128
  · have e : bv v = [UInt8.ofNat v.toNat] := by unfold bv; rw [if_pos c1]
    have ha := aR (n := v.toNat) (by omega)
    rw [e]
    unfold dcd
    simp only [List.cons_append, List.nil_append, List.getD_cons_zero, ha]
    rw [if_pos (by omega)]
    simp
  · by_cases c2 : v < 2048
    · have e : bv v = [UInt8.ofNat (192 + v.toNat / 64), UInt8.ofNat (128 + v.toNat % 64)] := by unfold bv; rw [if_neg c1, if_pos c2]
      have ha := aR (n := 192 + v.toNat / 64) (by omega)
      have hb := aR (n := 128 + v.toNat % 64) (by omega)
      rw [e]
      unfold dcd
      simp only [List.cons_append, List.nil_append, List.getD_cons_zero, List.getD_cons_succ, ha, hb]
      rw [if_neg (by omega), if_pos (by simp only [Bool.and_eq_true, beq_iff_eq]; omega), if_pos (by omega)]
      simp
      omega
    · by_cases c3 : v < 65536
      · have e : bv v = [UInt8.ofNat (224 + v.toNat / 4096), UInt8.ofNat (128 + v.toNat / 64 % 64), UInt8.ofNat (128 + v.toNat % 64)] := by unfold bv; rw [if_neg c1, if_neg c2, if_pos c3]
        have ha := aR (n := 224 + v.toNat / 4096) (by omega)
        have hb := aR (n := 128 + v.toNat / 64 % 64) (by omega)
        have hc := aR (n := 128 + v.toNat % 64) (by omega)
        rw [e]
        unfold dcd
        simp only [List.cons_append, List.nil_append, List.getD_cons_zero, List.getD_cons_succ, ha, hb, hc]
        have hn : (224 + v.toNat / 4096) % 16 * 4096 + (128 + v.toNat / 64 % 64) % 64 * 64 + (128 + v.toNat % 64) % 64 = v.toNat := by omega
        rw [if_neg (by omega), if_neg (by simp only [Bool.and_eq_true, beq_iff_eq]; omega), if_pos (by simp only [Bool.and_eq_true, beq_iff_eq]; omega), hn, if_pos (by rw [hval _ rfl, Bool.and_true]; simp; omega)]
        simp
      · have e : bv v = [UInt8.ofNat (240 + v.toNat / 262144), UInt8.ofNat (128 + v.toNat / 4096 % 64), UInt8.ofNat (128 + v.toNat / 64 % 64), UInt8.ofNat (128 + v.toNat % 64)] := by unfold bv; rw [if_neg c1, if_neg c2, if_neg c3, if_pos h1]
        have ha := aR (n := 240 + v.toNat / 262144) (by omega)
        have hb := aR (n := 128 + v.toNat / 4096 % 64) (by omega)
        have hc := aR (n := 128 + v.toNat / 64 % 64) (by omega)
        have hd := aR (n := 128 + v.toNat % 64) (by omega)
        rw [e]
        unfold dcd
        simp only [List.cons_append, List.nil_append, List.getD_cons_zero, List.getD_cons_succ, ha, hb, hc, hd]
        have hn : (240 + v.toNat / 262144) % 8 * 262144 + (128 + v.toNat / 4096 % 64) % 64 * 4096 + (128 + v.toNat / 64 % 64) % 64 * 64 + (128 + v.toNat % 64) % 64 = v.toNat := by omega
        rw [if_neg (by omega), if_neg (by simp only [Bool.and_eq_true, beq_iff_eq]; omega), if_neg (by simp only [Bool.and_eq_true, beq_iff_eq]; omega), if_pos (by simp only [Bool.and_eq_true, beq_iff_eq]; omega), hn, if_pos (by rw [hval _ rfl, Bool.and_true]; simp; omega)]
        simp
theorem Sn {a : UInt8} {l : List UInt8} (h : 128 ≤ a.toNat) (hc : ic a 1 l ≠ szB a) : dcd (a :: l) = (65533, 1) := by
  rw [fj] at hc
  have hal := a.toNat_lt
  unfold dcd
  simp only [List.getD_cons_zero, List.getD_cons_succ]
  generalize l.getD 0 0 = b at *
  generalize l.getD 1 0 = c at *
  generalize l.getD 2 0 = d at *
  have hbl := b.toNat_lt
  have hcl := c.toNat_lt
  have hdl := d.toNat_lt
  rw [if_neg (by omega)]
  split
  · rename_i q
    simp only [Bool.and_eq_true, beq_iff_eq] at q
    split
    · rename_i q2
      exfalso
      have hs : szB a = 2 := by unfold szB; rw [if_neg (by omega), if_pos (by omega)]
      have hm : dA a b 1 = true := by rw [bt]; omega
      rw [hs] at hc
      simp [hm] at hc
    · rfl
  · split
    · rename_i q
      simp only [Bool.and_eq_true, beq_iff_eq] at q
      split
      · rename_i q2
        exfalso
        unfold Utf8.valid at q2
        simp only [Bool.and_eq_true, Bool.or_eq_true, decide_eq_true_eq] at q2
        have hs : szB a = 3 := by unfold szB; rw [if_neg (by omega), if_neg (by omega), if_pos (by omega)]
        have hm : dA a b 1 = true := by rw [bt]; omega
        have hm2 : dA a c 2 = true := by rw [bt]; omega
        rw [hs] at hc
        simp [hm, hm2] at hc
      · rfl
    · split
      · rename_i q
        simp only [Bool.and_eq_true, beq_iff_eq] at q
        split
        · rename_i q2
          exfalso
          unfold Utf8.valid at q2
          simp only [Bool.and_eq_true, Bool.or_eq_true, decide_eq_true_eq] at q2
          have hs : szB a = 4 := by unfold szB; rw [if_neg (by omega), if_neg (by omega), if_neg (by omega), if_pos (by omega)]
          have hm : dA a b 1 = true := by rw [bt]; omega
          have hm2 : dA a c 2 = true := by rw [bt]; omega
          have hm3 : dA a d 3 = true := by rw [bt]; omega
          rw [hs] at hc
          simp [hm, hm2, hm3] at hc
        · rfl
      · rfl
theorem ajK {s : List UInt8} (h : s ≠ []) : dcd s = ((bN (aU s).1).toNat, (aU s).2) := by
  rcases d7 s h with ⟨v, r, h0, h1, h2, hs, ho⟩ | ⟨a, r, hs, ha, hc, ho⟩
  · rw [ho, hs, amF h0 h1 h2]
    unfold bN
    rw [if_neg (by omega)]
  · rw [ho, hs, Sn ha hc]
    unfold bN
    rw [if_pos (by omega)]
    rfl
theorem KT {s : List UInt8} (h : s ≠ []) : ((bN (aU s).1).toNat : Int) = bN (aU s).1 := by
  rcases d7 s h with ⟨v, r, h0, h1, h2, hs, ho⟩ | ⟨a, r, hs, ha, hc, ho⟩
  · rw [ho]; unfold bN; rw [if_neg (by omega)]; omega
  · rw [ho]; unfold bN; rw [if_pos (by omega)]; rfl
theorem pn (l : List UInt8) (pos : Nat) (h : pos < l.length) : Utf8.decode ⟨l.toArray⟩ pos = ((bN (aU (l.drop pos)).1).toNat, (aU (l.drop pos)).2) := by
  rw [Ky, ajK (fun e => by have := List.drop_eq_nil_iff.1 e; omega)]
end Go.Proofs.YticllcglldbffaaDoor.Ab
