/- What the evaluator's stores and values are in the machine's world. -/
import Derived.Test.YtndedkpcfjnecaaA2
import Derived.Lib.FrozenHead
namespace Go.Proofs.Ytndedkpcfjnecaa.Ab

structure Loc where
  c : Nat
  off : Nat
  N : Nat
  sz : Nat
abbrev Phi := Nat → Nat → Option Loc

mutual
inductive VRel (φ : Phi) : Value → Value → Prop
  | bool (b : Bool) : VRel φ (.bool b) (.bool b)
  | int (k : IntKind) (n : Int) : VRel φ (.int k n) (.int k n)
  | string (s : ByteArray) : VRel φ (.string s) (.string s)
  | nilPtr : VRel φ (.pointer none) (.pointer none)
  | nilSlice : VRel φ (.slice none 0 0) (.slice none 0 0)
  | nilMap : VRel φ (.map none) (.map none)
  | nilFunc : VRel φ .nilFunc .nilFunc
  | nilIface : VRel φ .nilIface .nilIface
  | ptr (a : Addr) (l : Loc) : φ a.block (ep a) = some l → VRel φ (.pointer (some a)) (.pointer (some ⟨l.c, l.off + a.off, none⟩))
  | slice (a : Addr) (l : Loc) (len cap : Nat) (aa : Addr) (cap' : Nat) : φ a.block (ep a) = some l → (aa = ⟨l.c, l.off + a.off, none⟩ ∨ cap' = 0) → len ≤ cap' → (cap % 2 = 1 → cap' = cap / 2) → cap / 2 ≤ cap' →
      (cap % 2 = 0 → a.off = 0 → cap' * l.sz ≤ l.N) → VRel φ (.slice (some a) len cap) (.slice (some aa) len cap')
  | map (r : Nat) (l : Loc) : φ r 0 = some l → VRel φ (.map (some r)) (.map (some l.c))
  | func (fn : Fn) (a b a' b' : Array Value) : VRels φ a.toList a'.toList → VRels φ b.toList b'.toList → VRel φ (.func fn a b) (.func fn a' b')
  | iface (t : TypeId) (v v' : Value) : VRel φ v v' → VRel φ (.iface t v) (.iface t v')
  | agg (a a' : Array Value) : VRels φ a.toList a'.toList → VRel φ (.agg a) (.agg a')
  | tuple (a a' : Array Value) : VRels φ a.toList a'.toList → VRel φ (.tuple a) (.tuple a')
inductive VRels (φ : Phi) : List Value → List Value → Prop
  | nil : VRels φ [] []
  | cons (v v' : Value) (l l' : List Value) : VRel φ v v' → VRels φ l l' → VRels φ (v :: l) (v' :: l')
end

def Phi.le (φ φ' : Phi) : Prop := ∀ b e l, φ b e = some l → φ' b e = some l

mutual
theorem VRel.mono {φ φ' : Phi} (h : φ.le φ') : ∀ {v v' : Value}, VRel φ v v' → VRel φ' v v'
  | _, _, .bool b => .bool b
  | _, _, .int k n => .int k n
  | _, _, .string s => .string s
  | _, _, .nilPtr => .nilPtr
  | _, _, .nilSlice => .nilSlice
  | _, _, .nilMap => .nilMap
  | _, _, .nilFunc => .nilFunc
  | _, _, .nilIface => .nilIface
  | _, _, .ptr a l hl => .ptr a l (h _ _ _ hl)
  | _, _, .slice a l len cap aa cap' hl h1 h2 h3 h4 h5 => .slice a l len cap aa cap' (h _ _ _ hl) h1 h2 h3 h4 h5
  | _, _, .map r l hl => .map r l (h _ _ _ hl)
  | _, _, .func fn a b a' b' h1 h2 => .func fn a b a' b' (VRels.mono h h1) (VRels.mono h h2)
  | _, _, .iface t v v' h1 => .iface t v v' (VRel.mono h h1)
  | _, _, .agg a a' h1 => .agg a a' (VRels.mono h h1)
  | _, _, .tuple a a' h1 => .tuple a a' (VRels.mono h h1)
theorem VRels.mono {φ φ' : Phi} (h : φ.le φ') : ∀ {l l' : List Value}, VRels φ l l' → VRels φ' l l'
  | _, _, .nil => .nil
  | _, _, .cons v v' l l' h1 h2 => .cons v v' l l' (VRel.mono h h1) (VRels.mono h h2)
end

theorem VRels.length {φ : Phi} : ∀ {l l' : List Value}, VRels φ l l' → l.length = l'.length
  | _, _, .nil => rfl
  | _, _, .cons _ _ _ _ _ h => by simp [VRels.length h]
theorem VRels.get {φ : Phi} : ∀ {l l' : List Value}, VRels φ l l' → ∀ (i : Nat) (v : Value), l[i]? = some v → ∃ v', l'[i]? = some v' ∧ VRel φ v v'
  | _, _, .nil, i, v, h => by simp at h
  | _, _, .cons v v' l l' h1 h2, 0, u, h => by
    simp at h; subst h
    exact ⟨v', rfl, h1⟩
  | _, _, .cons v v' l l' h1 h2, i + 1, u, h => by
    simp at h
    obtain ⟨u', h3, h4⟩ := VRels.get h2 i u h
    exact ⟨u', by simpa using h3, h4⟩
theorem VRels.of_get {φ : Phi} : ∀ (l l' : List Value), l.length = l'.length → (∀ (i : Nat) (v : Value), l[i]? = some v → ∃ v', l'[i]? = some v' ∧ VRel φ v v') → VRels φ l l'
  | [], [], _, _ => .nil
  | [], _ :: _, h, _ => by simp at h
  | _ :: _, [], h, _ => by simp at h
  | v :: l, v' :: l', h, hg => by
    refine .cons _ _ _ _ ?_ (VRels.of_get l l' (by simpa using h) fun i u hu => ?_)
    · obtain ⟨u, h1, h2⟩ := hg 0 v rfl
      simp at h1; subst h1; exact h2
    · obtain ⟨u', h1, h2⟩ := hg (i + 1) u (by simpa using hu)
      exact ⟨u', by simpa using h1, h2⟩
theorem VRels.append {φ : Phi} : ∀ {l l' m m' : List Value}, VRels φ l l' → VRels φ m m' → VRels φ (l ++ m) (l' ++ m')
  | _, _, _, _, .nil, h => h
  | _, _, _, _, .cons v v' l l' h1 h2, h => .cons v v' _ _ h1 (VRels.append h2 h)
theorem VRels.take {φ : Phi} {l l' : List Value} (h : VRels φ l l') (n : Nat) : VRels φ (l.take n) (l'.take n) := by
  induction n generalizing l l' with
  | zero => exact .nil
  | succ n ih => cases h with
    | nil => exact .nil
    | cons v v' l l' h1 h2 => exact .cons _ _ _ _ h1 (ih h2)
theorem VRels.drop {φ : Phi} {l l' : List Value} (h : VRels φ l l') (n : Nat) : VRels φ (l.drop n) (l'.drop n) := by
  induction n generalizing l l' with
  | zero => exact h
  | succ n ih => cases h with
    | nil => exact .nil
    | cons v v' l l' h1 h2 => exact ih h2
theorem VRels.map {φ : Phi} {α : Type} (f g : α → Value) : ∀ (l : List α), (∀ x ∈ l, VRel φ (f x) (g x)) → VRels φ (l.map f) (l.map g)
  | [], _ => .nil
  | x :: l, h => .cons _ _ _ _ (h x (by simp)) (VRels.map f g l fun y hy => h y (by simp [hy]))
theorem VRels.over {φ : Phi} {l l' m m' : List Value} (h : VRels φ l l') (k : VRels φ m m') (n : Nat) : VRels φ (over l n m) (over l' n m') := by
  unfold Ab.over
  rw [k.length]
  exact ((h.take n).append k).append (h.drop _)

theorem VRels.self {φ : Phi} : ∀ (l : List Value), (∀ v ∈ l, VRel φ v v) → VRels φ l l
  | [], _ => .nil
  | v :: l, h => .cons _ _ _ _ (h v (by simp)) (VRels.self l fun u hu => h u (by simp [hu]))
theorem VRel.cst {φ : Phi} : ∀ (n : Nat) (v : Value), cstOk n v = true → VRel φ v v
  | _, .bool _, _ => .bool _
  | _, .int _ _, _ => .int _ _
  | _, .string _, _ => .string _
  | _, .pointer none, _ => .nilPtr
  | _, .slice none 0 0, _ => .nilSlice
  | _, .map none, _ => .nilMap
  | _, .nilFunc, _ => .nilFunc
  | _, .nilIface, _ => .nilIface
  | n + 1, .agg a, h => .agg _ _ (VRels.self _ fun v hv => VRel.cst n v (List.all_eq_true.1 (show a.toList.all (cstOk n) = true from h) v hv))
  | n + 1, .tuple a, h => .tuple _ _ (VRels.self _ fun v hv => VRel.cst n v (List.all_eq_true.1 (show a.toList.all (cstOk n) = true from h) v hv))
  | n + 1, .iface _ v, h => .iface _ _ _ (VRel.cst n v h)
  | 0, .agg _, h | 0, .tuple _, h | 0, .iface _ _, h => by simp [cstOk] at h
  | _, .float _ _, h | _, .complex _ _ _, h | _, .chan _, h | _, .func _ _ _, h => by simp [cstOk] at h
  | _, .pointer (some _), h | _, .map (some _), h => by simp [cstOk] at h
  | _, .slice (some _) _ _, h => by simp [cstOk] at h
  | _, .slice none (_ + 1) _, h => by simp [cstOk] at h
  | _, .slice none 0 (_ + 1), h => by simp [cstOk] at h

theorem VRel.oneCell {φ : Phi} {v v' : Value} (h : VRel φ v v') : v'.oneCell' = v.oneCell' := by cases h <;> rfl
theorem VRel.cells {φ : Phi} {v v' : Value} (h : VRel φ v v') : VRels φ v.cells.toList v'.cells.toList := by
  cases h with
  | agg a a' h => exact h
  | _ => exact .cons _ _ _ _ (by constructor <;> assumption) .nil
theorem VRels.oneCell {φ : Phi} : ∀ {l l' : List Value}, VRels φ l l' → l.all Value.oneCell' = true → ∀ v ∈ l', v.oneCell' = true
  | _, _, .nil, _, v, hv => by cases hv
  | _, _, .cons a b l l' h1 h2, h, v, hv => by
    simp only [List.all_cons, Bool.and_eq_true] at h
    rcases List.mem_cons.1 hv with rfl | hv
    · rw [h1.oneCell]; exact h.1
    · exact VRels.oneCell h2 h.2 v hv

/-! ### Stores -/
inductive MRels (φ : Phi) : List MapEntry → List MapEntry → Prop
  | nil : MRels φ [] []
  | cons (k v v' : Value) (b : Nat) (l l' : List MapEntry) : VRel φ v v' → MRels φ l l' → MRels φ (⟨k, v, b⟩ :: l) (⟨k, v', b⟩ :: l')
theorem MRels.mono {φ φ' : Phi} (h : φ.le φ') : ∀ {l l' : List MapEntry}, MRels φ l l' → MRels φ' l l'
  | _, _, .nil => .nil
  | _, _, .cons k v v' b l l' h1 h2 => .cons k v v' b l l' (h1.mono h) (MRels.mono h h2)

def isMut : Option AObj → Bool
  | none | some (.ro _) => false
  | _ => true
def ORel (X : Prg) (φ : Phi) (w : World) (e : Nat) (l : Loc) : AObj → Prop
  | .ro cs => e = 0 → ∀ i v, cs[i]? = some v → ∃ v', w.cell? ⟨l.c, l.off + i, none⟩ = some v' ∧ VRel φ v v'
  | .own r => e ≤ r.ep ∧ (e = r.ep → l.off = 0 ∧ ∃ arr fr, w.heap[l.c]? = some (.cells arr r.elem fr) ∧ arr.size = l.N ∧ (∃ ty, X.ty r.elem = some ty ∧ l.sz = ty.size) ∧
      (r.str = false → fr.2 ≤ r.frz) ∧ r.cs.length ≤ arr.size ∧ VRels φ r.cs (arr.toList.take r.cs.length))
  | .map es clk => e = 0 ∧ ∃ es', w.heap[l.c]? = some (.map es' clk) ∧ MRels φ es es'.toList
  | .iter s pos => e = 0 ∧ l.off = 0 ∧ w.heap[l.c]? = some (.stringIter s pos)
structure SRel (X : Prg) (φ : Phi) (g : Nat → Option AObj) (w : World) : Prop where
  obj : ∀ b e l, φ b e = some l → ∀ o, g b = some o → ORel X φ w e l o
  lt : ∀ b e l, φ b e = some l → l.c < w.heap.size
  sep : ∀ b e l b' e' l', φ b e = some l → φ b' e' = some l' → b ≠ b' → isMut (g b) = true → l.c ≠ l'.c
def Fresh (φ : Phi) (lo hi : Nat) : Prop := ∀ b e, lo ≤ b → b < hi → φ b e = none
structure Step (φ φ' : Phi) (s s' : St) (w w' : World) : Prop where
  size : s.size ≤ s'.size
  le : φ.le φ'
  new : ∀ b e l, φ' b e = some l → φ b e = some l ∨ (s.size ≤ b ∧ b < s'.size ∧ w.heap.size ≤ l.c) ∨ (∃ e0 l0, φ b e0 = some l0 ∧ isMut (s.get b) = true ∧ (l0.c = l.c ∨ w.heap.size ≤ l.c))
  kind : ∀ b, (b < s.size ∨ s'.size ≤ b) → isMut (s'.get b) = isMut (s.get b)
  os : w'.os = w.os
  tape : w'.tape = w.tape
  output : w'.output = w.output
  wsize : w.heap.size ≤ w'.heap.size
  frm : ∀ c, c < w.heap.size → (∀ b e l, φ b e = some l → l.c = c → isMut (s.get b) = false) → w'.heap[c]? = w.heap[c]?

theorem Step.refl (φ : Phi) (s : St) (w : World) : Step φ φ s s w w :=
  ⟨Nat.le_refl _, fun _ _ _ h => h, fun _ _ _ h => .inl h, fun _ _ => rfl, rfl, rfl, rfl, Nat.le_refl _, fun _ _ _ => rfl⟩
theorem Step.fresh {φ φ' : Phi} {s s' : St} {w w' : World} (h : Step φ φ' s s' w w') {hi : Nat} (hf : Fresh φ s.size hi) : Fresh φ' s'.size hi := by
  intro b e h1 h2
  cases hb : φ' b e with
  | none => rfl
  | some l =>
    exfalso
    have hs := h.size
    rcases h.new b e l hb with h3 | ⟨_, h4, _⟩ | ⟨e0, l0, h3, _⟩
    · rw [hf b e (by omega) h2] at h3; cases h3
    · omega
    · rw [hf b e0 (by omega) h2] at h3; cases h3
theorem Step.trans {φ φ1 φ2 : Phi} {s s1 s2 : St} {w w1 w2 : World} (h : Step φ φ1 s s1 w w1) (k : Step φ1 φ2 s1 s2 w1 w2) (hf : Fresh φ s.size s2.size) : Step φ φ2 s s2 w w2 := by
  have hs1 := h.size
  have hs2 := k.size
  refine ⟨by omega, fun b e l hb => k.le _ _ _ (h.le _ _ _ hb), ?_, ?_, k.os.trans h.os, k.tape.trans h.tape, k.output.trans h.output, Nat.le_trans h.wsize k.wsize, ?_⟩
  · intro b e l hb
    have hw := h.wsize
    rcases k.new b e l hb with h3 | ⟨h3, h4, h5⟩ | ⟨e0, l0, h3, h4, h5⟩
    · rcases h.new b e l h3 with h6 | ⟨h6, h7, h8⟩ | h6
      · exact .inl h6
      · exact .inr (.inl ⟨h6, by omega, h8⟩)
      · exact .inr (.inr h6)
    · exact .inr (.inl ⟨by omega, h4, by omega⟩)
    · rcases h.new b e0 l0 h3 with h6 | ⟨h6, h7, h8⟩ | ⟨e1, l1, h6, h7, h8⟩
      · by_cases hb1 : b < s.size ∨ s1.size ≤ b
        · rw [h.kind b hb1] at h4
          exact .inr (.inr ⟨e0, l0, h6, h4, by rcases h5 with h5 | h5; exact .inl h5; exact .inr (by omega)⟩)
        · exfalso
          rw [hf b e0 (by omega) (by omega)] at h6; cases h6
      · exact .inr (.inl ⟨h6, by omega, by rcases h5 with h5 | h5; rw [← h5]; exact h8; omega⟩)
      · refine .inr (.inr ⟨e1, l1, h6, h7, ?_⟩)
        rcases h5 with h5 | h5
        · rw [← h5]; exact h8
        · exact .inr (by omega)
  · intro b hb
    by_cases h1 : b < s.size ∨ s1.size ≤ b
    · by_cases h2 : b < s1.size ∨ s2.size ≤ b
      · rw [k.kind b h2, h.kind b h1]
      · omega
    · omega
  · intro c hc hm
    have hw := h.wsize
    rw [k.frm c (by omega) ?_, h.frm c hc hm]
    intro b e l hb hl
    rcases h.new b e l hb with h6 | ⟨h6, h7, h8⟩ | ⟨e1, l1, h6, h7, h8⟩
    · by_cases hb1 : b < s.size ∨ s1.size ≤ b
      · rw [h.kind b hb1]; exact hm b e l h6 hl
      · exfalso
        rw [hf b e (by omega) (by omega)] at h6; cases h6
    · omega
    · rcases h8 with h8 | h8
      · have := hm b e1 l1 h6 (by rw [h8]; exact hl)
        rw [this] at h7; cases h7
      · omega

/-- The store's image by what it says of fewer blocks. -/
theorem SRel.weaken {X : Prg} {φ : Phi} {g g' : Nat → Option AObj} {w : World} (h : SRel X φ g w) (hg : ∀ b e l, φ b e = some l → g' b = none ∨ g' b = g b) : SRel X φ g' w := by
  refine ⟨fun b e l hb o ho => ?_, h.lt, fun b e l b' e' l' hb hb' hne hm => ?_⟩
  · rcases hg b e l hb with h1 | h1
    · rw [h1] at ho; cases ho
    · exact h.obj b e l hb o (h1 ▸ ho)
  · rcases hg b e l hb with h1 | h1
    · rw [h1] at hm; cases hm
    · exact h.sep b e l b' e' l' hb hb' hne (h1 ▸ hm)

/-- A draw changes nothing that is looked at. -/
theorem ORel.world {X : Prg} {φ φ' : Phi} {w w' : World} {e : Nat} {l : Loc} {o : AObj} (hle : φ.le φ') (h : ORel X φ w e l o) (hw : w'.heap[l.c]? = w.heap[l.c]?) : ORel X φ' w' e l o := by
  cases o with
  | ro cs =>
    intro he i v hv
    obtain ⟨v', h1, h2⟩ := h he i v hv
    refine ⟨v', ?_, h2.mono hle⟩
    have : w'.cell? ⟨l.c, l.off + i, none⟩ = w.cell? ⟨l.c, l.off + i, none⟩ := by unfold World.cell?; simp only [hw]
    rw [this]; exact h1
  | own r =>
    refine ⟨h.1, fun he => ?_⟩
    obtain ⟨h0, arr, fr, h1, h2, h3, h4, h5, h6⟩ := h.2 he
    exact ⟨h0, arr, fr, by rw [hw]; exact h1, h2, h3, h4, h5, h6.mono hle⟩
  | map es clk =>
    obtain ⟨h0, es', h1, h2⟩ := h
    exact ⟨h0, es', by rw [hw]; exact h1, h2.mono hle⟩
  | iter s pos => exact ⟨h.1, h.2.1, by rw [hw]; exact h.2.2⟩
end Go.Proofs.Ytndedkpcfjnecaa.Ab
