/- Texts as values: plain Lean. -/
import Derived.Test.YticllcglldbffaaN1
import Derived.Lib.Bytealg
namespace Go.Proofs.Yticllcglldbffaa.Ab
set_option linter.unusedVariables false
set_option linter.unusedSimpArgs false
/-- Of how many bytes what a byte begins is. -/
def szB (a : UInt8) : Nat := if a.toNat < 128 then 1 else if 194 ≤ a.toNat ∧ a.toNat ≤ 223 then 2 else if 224 ≤ a.toNat ∧ a.toNat ≤ 239 then 3 else if 240 ≤ a.toNat ∧ a.toNat ≤ 244 then 4 else 0
def contB (c : UInt8) : Bool := decide (128 ≤ c.toNat ∧ c.toNat ≤ 191)
def mayB (a c : UInt8) (i : Nat) : Bool := contB c && (decide (1 < i) || !(decide (a.toNat = 224 ∧ c.toNat < 160) || decide (a.toNat = 237 ∧ 159 < c.toNat) || decide (a.toNat = 240 ∧ c.toNat < 144) || decide (a.toNat = 244 ∧ 143 < c.toNat)))
/-- How many bytes belong to what the first one begins, from the i-th on. -/
def cntB (a : UInt8) : Nat → List UInt8 → Nat
  | i, [] => i
  | i, c :: l => if i < szB a ∧ mayB a c i = true then cntB a (i + 1) l else i
def addB (v : Int) (c : UInt8) : Int := v * 64 + (c.toNat : Int) - 128
def subB (n : Nat) : Int := if n = 2 then 192 else if n = 3 then 224 else if n = 4 then 240 else 0
/-- The first value of a text, and its size. -/
def oneL : List UInt8 → Int × Nat
  | [] => (0, 0)
  | a :: l => if cntB a 1 l = szB a then ((l.take (szB a - 1)).foldl addB ((a.toNat : Int) - subB (szB a)), szB a) else (1114112 + (a.toNat : Int), 1)
theorem oneL_cons (a : UInt8) (l : List UInt8) : oneL (a :: l) = if cntB a 1 l = szB a then ((l.take (szB a - 1)).foldl addB ((a.toNat : Int) - subB (szB a)), szB a) else (1114112 + (a.toNat : Int), 1) := rfl
theorem cntB_ge (a : UInt8) : ∀ (l : List UInt8) (i : Nat), i ≤ cntB a i l
  | [], i => Nat.le_refl _
  | c :: l, i => by
    rw [cntB]
    split
    · have := cntB_ge a l (i + 1); omega
    · exact Nat.le_refl _
theorem cntB_len (a : UInt8) : ∀ (l : List UInt8) (i : Nat), cntB a i l ≤ i + l.length
  | [], i => by simp [cntB]
  | c :: l, i => by
    rw [cntB, List.length_cons]
    split
    · have := cntB_len a l (i + 1); omega
    · omega
theorem oneL_pos (a : UInt8) (l : List UInt8) : 1 ≤ (oneL (a :: l)).2 ∧ (oneL (a :: l)).2 ≤ l.length + 1 := by
  have h1 := cntB_ge a l 1
  have h2 := cntB_len a l 1
  rw [oneL_cons]
  split <;> simp only <;> omega
theorem oneL_szpos {s : List UInt8} (h : s ≠ []) : 1 ≤ (oneL s).2 ∧ (oneL s).2 ≤ s.length := by
  cases s with
  | nil => exact absurd rfl h
  | cons a l => exact oneL_pos a l
/-- A text's values. -/
def decL (s : List UInt8) : List Int := if h : s = [] then [] else (oneL s).1 :: decL (s.drop (oneL s).2)
termination_by s.length
decreasing_by
  have h1 := oneL_szpos h
  have : 0 < s.length := List.length_pos_iff.2 h
  rw [List.length_drop]
  omega
theorem decL_nil : decL [] = [] := by rw [decL, dif_pos rfl]
theorem decL_cons {s : List UInt8} (h : s ≠ []) : decL s = (oneL s).1 :: decL (s.drop (oneL s).2) := by rw [decL, dif_neg h]
/-- By a text's values, one by one. -/
theorem decL_ind {P : List UInt8 → Prop} (h0 : P []) (h1 : ∀ s, s ≠ [] → P (s.drop (oneL s).2) → P s) : ∀ s, P s := by
  intro s
  generalize hn : s.length = n
  induction n using Nat.strongRecOn generalizing s with
  | _ n ih =>
    by_cases h : s = []
    · subst h; exact h0
    · have h2 := oneL_szpos h
      have : 0 < s.length := List.length_pos_iff.2 h
      exact h1 s h (ih _ (by subst hn; rw [List.length_drop]; omega) _ rfl)
theorem decL_len : ∀ s, (decL s).length ≤ s.length := by
  refine decL_ind (by rw [decL_nil]; simp) fun s h ih => ?_
  have h2 := oneL_szpos h
  rw [decL_cons h, List.length_cons]
  rw [List.length_drop] at ih
  omega
/-- The runs of the loops, spelled out. -/
theorem cntB_eq (a : UInt8) (l : List UInt8) : cntB a 1 l = match szB a with
    | 2 => if mayB a (l.getD 0 0) 1 = true then 2 else 1
    | 3 => if mayB a (l.getD 0 0) 1 = true then (if mayB a (l.getD 1 0) 2 = true then 3 else 2) else 1
    | 4 => if mayB a (l.getD 0 0) 1 = true then (if mayB a (l.getD 1 0) 2 = true then (if mayB a (l.getD 2 0) 3 = true then 4 else 3) else 2) else 1
    | _ => 1 := by
  have hz : ∀ i, mayB a 0 i = false := fun i => by unfold mayB contB; simp
  have hsz : szB a = 0 ∨ szB a = 1 ∨ szB a = 2 ∨ szB a = 3 ∨ szB a = 4 := by unfold szB; (repeat' split) <;> simp
  rcases hsz with h | h | h | h | h
  all_goals
    rw [h]
    rcases l with _ | ⟨b, _ | ⟨c, _ | ⟨e, l⟩⟩⟩ <;> simp [cntB, h, hz]
  all_goals
    (try (cases l <;> simp [cntB, h]))
/-! ### The machine's own decoding -/
/-- As a range over a text decodes, of a list of bytes. -/
def dcd (l : List UInt8) : Nat × Nat :=
  let at' (k : Nat) : Nat := (l.getD k 0).toNat
  let cont (k : Nat) : Bool := at' k / 64 == 2
  let b0 := at' 0
  if b0 < 0x80 then (b0, 1)
  else if b0 / 32 == 6 && cont 1 then
    let c := (b0 % 32) * 64 + at' 1 % 64
    if c ≥ 0x80 then (c, 2) else (Utf8.runeError, 1)
  else if b0 / 16 == 14 && cont 1 && cont 2 then
    let c := (b0 % 16) * 4096 + (at' 1 % 64) * 64 + at' 2 % 64
    if c ≥ 0x800 && Utf8.valid c then (c, 3) else (Utf8.runeError, 1)
  else if b0 / 8 == 30 && cont 1 && cont 2 && cont 3 then
    let c := (b0 % 8) * 262144 + (at' 1 % 64) * 4096 + (at' 2 % 64) * 64 + at' 3 % 64
    if c ≥ 0x10000 && Utf8.valid c then (c, 4) else (Utf8.runeError, 1)
  else (Utf8.runeError, 1)
theorem getb (l : List UInt8) (i : Nat) : (ByteArray.mk l.toArray).get! i = l.getD i 0 := by
  show l.toArray[i]! = l.getD i 0
  by_cases h : i < l.length
  · rw [getElem!_pos l.toArray i (by simpa using h)]
    simp [List.getD, h]
  · rw [getElem!_neg l.toArray i (by simpa using h)]
    simp [List.getD, List.getElem?_eq_none (Nat.le_of_not_lt h)]
    rfl
theorem decode_dcd (l : List UInt8) (pos : Nat) : Utf8.decode ⟨l.toArray⟩ pos = dcd (l.drop pos) := by
  have e : ∀ k, (ByteArray.mk l.toArray).get! (pos + k) = (l.drop pos).getD k 0 := fun k => by
    rw [getb]
    simp [List.getD]
  have c : ∀ k, (decide (pos + k < (ByteArray.mk l.toArray).size) && ((l.drop pos).getD k 0).toNat / 64 == 2) = (((l.drop pos).getD k 0).toNat / 64 == 2) := fun k => by
    by_cases h : pos + k < (ByteArray.mk l.toArray).size
    · rw [decide_eq_true h, Bool.true_and]
    · rw [decide_eq_false h, Bool.false_and]
      have : (l.drop pos).getD k 0 = 0 := by
        have hl : l.length ≤ pos + k := by simpa [ByteArray.size] using h
        simp [List.getD, List.getElem?_eq_none hl]
      rw [this]
      rfl
  unfold Utf8.decode dcd
  simp only [e, c]
def runeOf (v : Int) : Int := if 1114112 ≤ v then 65533 else v
theorem mayB_iff (a c : UInt8) (i : Nat) : mayB a c i = true ↔ 128 ≤ c.toNat ∧ c.toNat ≤ 191 ∧ (1 < i ∨ ¬ (a.toNat = 224 ∧ c.toNat < 160) ∧ ¬ (a.toNat = 237 ∧ 159 < c.toNat) ∧ ¬ (a.toNat = 240 ∧ c.toNat < 144) ∧ ¬ (a.toNat = 244 ∧ 143 < c.toNat)) := by
  unfold mayB contB
  simp only [Bool.and_eq_true, decide_eq_true_eq, Bool.or_eq_true, Bool.not_eq_true', Bool.or_eq_false_iff, decide_eq_false_iff_not]
  omega
/-- What stands at a text's beginning: a value's bytes, or a stray byte. -/
theorem oneL_cases (s : List UInt8) (h : s ≠ []) : (∃ v r, 0 ≤ v ∧ v ≤ 1114111 ∧ (v < 55296 ∨ 57343 < v) ∧ s = encV v ++ r ∧ oneL s = (v, (encV v).length)) ∨
    (∃ a r, s = a :: r ∧ 128 ≤ a.toNat ∧ cntB a 1 r ≠ szB a ∧ oneL s = (1114112 + (a.toNat : Int), 1)) := by
  cases s with
  | nil => exact absurd rfl h
  | cons a l =>
    by_cases hc : cntB a 1 l = szB a
    · left
      have ho : oneL (a :: l) = ((l.take (szB a - 1)).foldl addB ((a.toNat : Int) - subB (szB a)), szB a) := by rw [oneL_cons, if_pos hc]
      have hlen := cntB_len a l 1
      rw [cntB_eq] at hc
      have ha := a.toNat_lt
      have hofn : ∀ (c : UInt8) (n : Nat), n = c.toNat → UInt8.ofNat n = c := fun c n h => by subst h; exact UInt8.ofNat_toNat
      by_cases h1 : a.toNat < 128
      · have hs : szB a = 1 := by unfold szB; rw [if_pos h1]
        rw [hs] at ho
        have e : encV (a.toNat : Int) = [a] := by
          unfold encV
          rw [if_pos (by omega), hofn a _ (by omega)]
        refine ⟨a.toNat, l, by omega, by omega, by omega, by rw [e]; rfl, ?_⟩
        rw [ho, e]
        simp [subB]
      · by_cases h2 : 194 ≤ a.toNat ∧ a.toNat ≤ 223
        · have hs : szB a = 2 := by unfold szB; rw [if_neg h1, if_pos h2]
          rw [hs] at ho hc
          simp only at hc
          have hl2 : 1 ≤ l.length := by
            rw [cntB_eq, hs] at hlen
            simp only at hlen
            rw [hc] at hlen
            omega
          obtain ⟨b, l2, rfl⟩ : ∃ b l2, l = b :: l2 := by cases l with | nil => simp at hl2 | cons b l2 => exact ⟨b, l2, rfl⟩
          simp only [List.getD_cons_zero] at hc
          have hm : mayB a b 1 = true := by
            cases hq : mayB a b 1 with
            | true => rfl
            | false => rw [hq] at hc; simp at hc
          rw [mayB_iff] at hm
          obtain ⟨m1, m2, _⟩ := hm
          have e : encV (((a.toNat : Int) - 192) * 64 + b.toNat - 128) = [a, b] := by
            unfold encV
            rw [if_neg (by omega), if_pos (by omega), hofn a _ (by omega), hofn b _ (by omega)]
          refine ⟨((a.toNat : Int) - 192) * 64 + b.toNat - 128, l2, by omega, by omega, by omega, by rw [e]; rfl, ?_⟩
          rw [ho, e]
          simp [subB, addB]
        · by_cases h3 : 224 ≤ a.toNat ∧ a.toNat ≤ 239
          · have hs : szB a = 3 := by unfold szB; rw [if_neg h1, if_neg h2, if_pos h3]
            rw [hs] at ho hc
            simp only at hc
            have hl2 : 2 ≤ l.length := by
              rw [cntB_eq, hs] at hlen
              simp only at hlen
              rw [hc] at hlen
              omega
            obtain ⟨b, c, l2, rfl⟩ : ∃ b c l2, l = b :: c :: l2 := by
              rcases l with _ | ⟨b, _ | ⟨c, l2⟩⟩
              · simp at hl2
              · simp at hl2
              · exact ⟨b, c, l2, rfl⟩
            simp only [List.getD_cons_zero, List.getD_cons_succ] at hc
            have hm : mayB a b 1 = true := by
              cases hq : mayB a b 1 with
              | true => rfl
              | false => rw [hq] at hc; simp at hc
            have hm2 : mayB a c 2 = true := by
              cases hq : mayB a c 2 with
              | true => rfl
              | false => rw [hm, hq] at hc; simp at hc
            rw [mayB_iff] at hm hm2
            obtain ⟨m1, m2, m3⟩ := hm
            obtain ⟨n1, n2, _⟩ := hm2
            have e : encV ((((a.toNat : Int) - 224) * 64 + b.toNat - 128) * 64 + c.toNat - 128) = [a, b, c] := by
              unfold encV
              rw [if_neg (by omega), if_neg (by omega), if_pos (by omega), hofn a _ (by omega), hofn b _ (by omega), hofn c _ (by omega)]
            refine ⟨(((a.toNat : Int) - 224) * 64 + b.toNat - 128) * 64 + c.toNat - 128, l2, by omega, by omega, by omega, by rw [e]; rfl, ?_⟩
            rw [ho, e]
            simp [subB, addB]
          · by_cases h4 : 240 ≤ a.toNat ∧ a.toNat ≤ 244
            · have hs : szB a = 4 := by unfold szB; rw [if_neg h1, if_neg h2, if_neg h3, if_pos h4]
              rw [hs] at ho hc
              simp only at hc
              have hl2 : 3 ≤ l.length := by
                rw [cntB_eq, hs] at hlen
                simp only at hlen
                rw [hc] at hlen
                omega
              obtain ⟨b, c, d, l2, rfl⟩ : ∃ b c d l2, l = b :: c :: d :: l2 := by
                rcases l with _ | ⟨b, _ | ⟨c, _ | ⟨d, l2⟩⟩⟩
                · simp at hl2
                · simp at hl2
                · simp at hl2
                · exact ⟨b, c, d, l2, rfl⟩
              simp only [List.getD_cons_zero, List.getD_cons_succ] at hc
              have hm : mayB a b 1 = true := by
                cases hq : mayB a b 1 with
                | true => rfl
                | false => rw [hq] at hc; simp at hc
              have hm2 : mayB a c 2 = true := by
                cases hq : mayB a c 2 with
                | true => rfl
                | false => rw [hm, hq] at hc; simp at hc
              have hm3 : mayB a d 3 = true := by
                cases hq : mayB a d 3 with
                | true => rfl
                | false => rw [hm, hm2, hq] at hc; simp at hc
              rw [mayB_iff] at hm hm2 hm3
              obtain ⟨m1, m2, m3⟩ := hm
              obtain ⟨n1, n2, _⟩ := hm2
              obtain ⟨o1, o2, _⟩ := hm3
              have e : encV (((((a.toNat : Int) - 240) * 64 + b.toNat - 128) * 64 + c.toNat - 128) * 64 + d.toNat - 128) = [a, b, c, d] := by
                unfold encV
                rw [if_neg (by omega), if_neg (by omega), if_neg (by omega), if_pos (by omega), hofn a _ (by omega), hofn b _ (by omega), hofn c _ (by omega), hofn d _ (by omega)]
              refine ⟨((((a.toNat : Int) - 240) * 64 + b.toNat - 128) * 64 + c.toNat - 128) * 64 + d.toNat - 128, l2, by omega, by omega, by omega, by rw [e]; rfl, ?_⟩
              rw [ho, e]
              simp [subB, addB]
            · have hs : szB a = 0 := by unfold szB; rw [if_neg h1, if_neg h2, if_neg h3, if_neg h4]
              rw [hs] at hc
              simp at hc
    · right
      refine ⟨a, l, rfl, ?_, hc, by rw [oneL_cons, if_neg hc]⟩
      by_cases h1 : a.toNat < 128
      · have hs : szB a = 1 := by unfold szB; rw [if_pos h1]
        exact absurd (by rw [cntB_eq, hs]; rfl) hc
      · omega
theorem ofNat_val {n : Nat} (h : n < 256) : (UInt8.ofNat n).toNat = n := UInt8.toNat_ofNat_of_lt' (by simpa using h)
theorem oneL_enc {v : Int} (h0 : 0 ≤ v) (h1 : v ≤ 1114111) (h2 : v < 55296 ∨ 57343 < v) (r : List UInt8) : oneL (encV v ++ r) = (v, (encV v).length) := by
  by_cases c1 : v < 128
  · have e : encV v = [UInt8.ofNat v.toNat] := by unfold encV; rw [if_pos c1]
    have ha := ofNat_val (n := v.toNat) (by omega)
    rw [e]
    generalize UInt8.ofNat v.toNat = a at *
    have hs : szB a = 1 := by unfold szB; rw [if_pos (by omega)]
    simp only [List.cons_append, List.nil_append]
    rw [oneL_cons, if_pos (by rw [cntB_eq, hs]; rfl), hs]
    simp [subB]
    omega
  · by_cases c2 : v < 2048
    · have e : encV v = [UInt8.ofNat (192 + v.toNat / 64), UInt8.ofNat (128 + v.toNat % 64)] := by unfold encV; rw [if_neg c1, if_pos c2]
      have ha := ofNat_val (n := 192 + v.toNat / 64) (by omega)
      have hb := ofNat_val (n := 128 + v.toNat % 64) (by omega)
      rw [e]
      generalize UInt8.ofNat (192 + v.toNat / 64) = a at *
      generalize UInt8.ofNat (128 + v.toNat % 64) = b at *
      have hs : szB a = 2 := by unfold szB; rw [if_neg (by omega), if_pos (by omega)]
      have hm : mayB a b 1 = true := by rw [mayB_iff]; omega
      simp only [List.cons_append, List.nil_append]
      rw [oneL_cons, if_pos (by rw [cntB_eq, hs]; simp [hm]), hs]
      simp [subB, addB]
      omega
    · by_cases c3 : v < 65536
      · have e : encV v = [UInt8.ofNat (224 + v.toNat / 4096), UInt8.ofNat (128 + v.toNat / 64 % 64), UInt8.ofNat (128 + v.toNat % 64)] := by unfold encV; rw [if_neg c1, if_neg c2, if_pos c3]
        have ha := ofNat_val (n := 224 + v.toNat / 4096) (by omega)
        have hb := ofNat_val (n := 128 + v.toNat / 64 % 64) (by omega)
        have hc := ofNat_val (n := 128 + v.toNat % 64) (by omega)
        rw [e]
        generalize UInt8.ofNat (224 + v.toNat / 4096) = a at *
        generalize UInt8.ofNat (128 + v.toNat / 64 % 64) = b at *
        generalize UInt8.ofNat (128 + v.toNat % 64) = c at *
        have hs : szB a = 3 := by unfold szB; rw [if_neg (by omega), if_neg (by omega), if_pos (by omega)]
        have hm : mayB a b 1 = true := by rw [mayB_iff]; omega
        have hm2 : mayB a c 2 = true := by rw [mayB_iff]; omega
        simp only [List.cons_append, List.nil_append]
        rw [oneL_cons, if_pos (by rw [cntB_eq, hs]; simp [hm, hm2]), hs]
        simp [subB, addB]
        omega
      · have e : encV v = [UInt8.ofNat (240 + v.toNat / 262144), UInt8.ofNat (128 + v.toNat / 4096 % 64), UInt8.ofNat (128 + v.toNat / 64 % 64), UInt8.ofNat (128 + v.toNat % 64)] := by unfold encV; rw [if_neg c1, if_neg c2, if_neg c3, if_pos h1]
        have ha := ofNat_val (n := 240 + v.toNat / 262144) (by omega)
        have hb := ofNat_val (n := 128 + v.toNat / 4096 % 64) (by omega)
        have hc := ofNat_val (n := 128 + v.toNat / 64 % 64) (by omega)
        have hd := ofNat_val (n := 128 + v.toNat % 64) (by omega)
        rw [e]
        generalize UInt8.ofNat (240 + v.toNat / 262144) = a at *
        generalize UInt8.ofNat (128 + v.toNat / 4096 % 64) = b at *
        generalize UInt8.ofNat (128 + v.toNat / 64 % 64) = c at *
        generalize UInt8.ofNat (128 + v.toNat % 64) = d at *
        have hs : szB a = 4 := by unfold szB; rw [if_neg (by omega), if_neg (by omega), if_neg (by omega), if_pos (by omega)]
        have hm : mayB a b 1 = true := by rw [mayB_iff]; omega
        have hm2 : mayB a c 2 = true := by rw [mayB_iff]; omega
        have hm3 : mayB a d 3 = true := by rw [mayB_iff]; omega
        simp only [List.cons_append, List.nil_append]
        rw [oneL_cons, if_pos (by rw [cntB_eq, hs]; simp [hm, hm2, hm3]), hs]
        simp [subB, addB]
        omega
theorem dcd_enc {v : Int} (h0 : 0 ≤ v) (h1 : v ≤ 1114111) (h2 : v < 55296 ∨ 57343 < v) (r : List UInt8) : dcd (encV v ++ r) = (v.toNat, (encV v).length) := by
  have hval : ∀ n : Nat, n = v.toNat → Utf8.valid (n : Int) = true := fun n hn => by
    unfold Utf8.valid
    simp only [Bool.or_eq_true, Bool.and_eq_true, decide_eq_true_eq]
    omega
  by_cases c1 : v < 128
  · have e : encV v = [UInt8.ofNat v.toNat] := by unfold encV; rw [if_pos c1]
    have ha := ofNat_val (n := v.toNat) (by omega)
    rw [e]
    unfold dcd
    simp only [List.cons_append, List.nil_append, List.getD_cons_zero, ha]
    rw [if_pos (by omega)]
    simp
  · by_cases c2 : v < 2048
    · have e : encV v = [UInt8.ofNat (192 + v.toNat / 64), UInt8.ofNat (128 + v.toNat % 64)] := by unfold encV; rw [if_neg c1, if_pos c2]
      have ha := ofNat_val (n := 192 + v.toNat / 64) (by omega)
      have hb := ofNat_val (n := 128 + v.toNat % 64) (by omega)
      rw [e]
      unfold dcd
      simp only [List.cons_append, List.nil_append, List.getD_cons_zero, List.getD_cons_succ, ha, hb]
      rw [if_neg (by omega), if_pos (by simp only [Bool.and_eq_true, beq_iff_eq]; omega), if_pos (by omega)]
      simp
      omega
    · by_cases c3 : v < 65536
      · have e : encV v = [UInt8.ofNat (224 + v.toNat / 4096), UInt8.ofNat (128 + v.toNat / 64 % 64), UInt8.ofNat (128 + v.toNat % 64)] := by unfold encV; rw [if_neg c1, if_neg c2, if_pos c3]
        have ha := ofNat_val (n := 224 + v.toNat / 4096) (by omega)
        have hb := ofNat_val (n := 128 + v.toNat / 64 % 64) (by omega)
        have hc := ofNat_val (n := 128 + v.toNat % 64) (by omega)
        rw [e]
        unfold dcd
        simp only [List.cons_append, List.nil_append, List.getD_cons_zero, List.getD_cons_succ, ha, hb, hc]
        have hn : (224 + v.toNat / 4096) % 16 * 4096 + (128 + v.toNat / 64 % 64) % 64 * 64 + (128 + v.toNat % 64) % 64 = v.toNat := by omega
        rw [if_neg (by omega), if_neg (by simp only [Bool.and_eq_true, beq_iff_eq]; omega), if_pos (by simp only [Bool.and_eq_true, beq_iff_eq]; omega), hn, if_pos (by rw [hval _ rfl, Bool.and_true]; simp; omega)]
        simp
      · have e : encV v = [UInt8.ofNat (240 + v.toNat / 262144), UInt8.ofNat (128 + v.toNat / 4096 % 64), UInt8.ofNat (128 + v.toNat / 64 % 64), UInt8.ofNat (128 + v.toNat % 64)] := by unfold encV; rw [if_neg c1, if_neg c2, if_neg c3, if_pos h1]
        have ha := ofNat_val (n := 240 + v.toNat / 262144) (by omega)
        have hb := ofNat_val (n := 128 + v.toNat / 4096 % 64) (by omega)
        have hc := ofNat_val (n := 128 + v.toNat / 64 % 64) (by omega)
        have hd := ofNat_val (n := 128 + v.toNat % 64) (by omega)
        rw [e]
        unfold dcd
        simp only [List.cons_append, List.nil_append, List.getD_cons_zero, List.getD_cons_succ, ha, hb, hc, hd]
        have hn : (240 + v.toNat / 262144) % 8 * 262144 + (128 + v.toNat / 4096 % 64) % 64 * 4096 + (128 + v.toNat / 64 % 64) % 64 * 64 + (128 + v.toNat % 64) % 64 = v.toNat := by omega
        rw [if_neg (by omega), if_neg (by simp only [Bool.and_eq_true, beq_iff_eq]; omega), if_neg (by simp only [Bool.and_eq_true, beq_iff_eq]; omega), if_pos (by simp only [Bool.and_eq_true, beq_iff_eq]; omega), hn, if_pos (by rw [hval _ rfl, Bool.and_true]; simp; omega)]
        simp
theorem dcd_stray {a : UInt8} {l : List UInt8} (h : 128 ≤ a.toNat) (hc : cntB a 1 l ≠ szB a) : dcd (a :: l) = (65533, 1) := by
  rw [cntB_eq] at hc
  have hal := a.toNat_lt
  unfold dcd
  simp only [List.getD_cons_zero, List.getD_cons_succ]
  generalize l.getD 0 0 = b at *
  generalize l.getD 1 0 = c at *
  generalize l.getD 2 0 = d at *
  have hbl := b.toNat_lt
  have hcl := c.toNat_lt
  have hdl := d.toNat_lt
  rw [if_neg (by omega)]
  split
  · rename_i q
    simp only [Bool.and_eq_true, beq_iff_eq] at q
    split
    · rename_i q2
      exfalso
      have hs : szB a = 2 := by unfold szB; rw [if_neg (by omega), if_pos (by omega)]
      have hm : mayB a b 1 = true := by rw [mayB_iff]; omega
      rw [hs] at hc
      simp [hm] at hc
    · rfl
  · split
    · rename_i q
      simp only [Bool.and_eq_true, beq_iff_eq] at q
      split
      · rename_i q2
        exfalso
        unfold Utf8.valid at q2
        simp only [Bool.and_eq_true, Bool.or_eq_true, decide_eq_true_eq] at q2
        have hs : szB a = 3 := by unfold szB; rw [if_neg (by omega), if_neg (by omega), if_pos (by omega)]
        have hm : mayB a b 1 = true := by rw [mayB_iff]; omega
        have hm2 : mayB a c 2 = true := by rw [mayB_iff]; omega
        rw [hs] at hc
        simp [hm, hm2] at hc
      · rfl
    · split
      · rename_i q
        simp only [Bool.and_eq_true, beq_iff_eq] at q
        split
        · rename_i q2
          exfalso
          unfold Utf8.valid at q2
          simp only [Bool.and_eq_true, Bool.or_eq_true, decide_eq_true_eq] at q2
          have hs : szB a = 4 := by unfold szB; rw [if_neg (by omega), if_neg (by omega), if_neg (by omega), if_pos (by omega)]
          have hm : mayB a b 1 = true := by rw [mayB_iff]; omega
          have hm2 : mayB a c 2 = true := by rw [mayB_iff]; omega
          have hm3 : mayB a d 3 = true := by rw [mayB_iff]; omega
          rw [hs] at hc
          simp [hm, hm2, hm3] at hc
        · rfl
      · rfl
/-- A range over a text tells each value's rune, and goes on behind it. -/
theorem dcd_one {s : List UInt8} (h : s ≠ []) : dcd s = ((runeOf (oneL s).1).toNat, (oneL s).2) := by
  rcases oneL_cases s h with ⟨v, r, h0, h1, h2, hs, ho⟩ | ⟨a, r, hs, ha, hc, ho⟩
  · rw [ho, hs, dcd_enc h0 h1 h2]
    unfold runeOf
    rw [if_neg (by omega)]
  · rw [ho, hs, dcd_stray ha hc]
    unfold runeOf
    rw [if_pos (by omega)]
    rfl
theorem runeOf_nat {s : List UInt8} (h : s ≠ []) : ((runeOf (oneL s).1).toNat : Int) = runeOf (oneL s).1 := by
  rcases oneL_cases s h with ⟨v, r, h0, h1, h2, hs, ho⟩ | ⟨a, r, hs, ha, hc, ho⟩
  · rw [ho]; unfold runeOf; rw [if_neg (by omega)]; omega
  · rw [ho]; unfold runeOf; rw [if_pos (by omega)]; rfl
theorem decode_at (l : List UInt8) (pos : Nat) (h : pos < l.length) : Utf8.decode ⟨l.toArray⟩ pos = ((runeOf (oneL (l.drop pos)).1).toNat, (oneL (l.drop pos)).2) := by
  rw [decode_dcd, dcd_one (fun e => by have := List.drop_eq_nil_iff.1 e; omega)]
end Go.Proofs.Yticllcglldbffaa.Ab
