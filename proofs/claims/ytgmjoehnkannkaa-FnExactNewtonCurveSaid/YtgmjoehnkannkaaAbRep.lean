/-
  How abstract values and heaps stand to the machine's values and memory.
-/
import Derived.Test.YtgmjoehnkannkaaAbEv
import Derived.Below
namespace Go.Ab
open Go.RowKit

/-- Where a named block lies: cells from 'off' on in the machine's block 'blk', which has 'size' cells; 'len' elements of 'es' cells. -/
structure Loc where
  blk : Nat
  off : Nat
  size : Nat
  len : Nat
  es : Nat
  own : Bool

abbrev Bt := Nat → Option Loc

def Bt.le (β β' : Bt) : Prop := ∀ n l, β n = some l → β' n = some l
theorem Bt.le_refl (β : Bt) : β.le β := fun _ _ h => h
theorem Bt.le.trans {a b c : Bt} (h : a.le b) (k : b.le c) : a.le c := fun n l e => k n l (h n l e)

def SlcOk (l : Loc) (off len : Nat) (a : Option Addr) (cap : Nat) : Prop :=
  off + len ≤ l.len ∧ ((len = 0 ∧ (l.own = true → cap = 0)) ∨ (a = some ⟨l.blk, l.off + off * l.es, none⟩ ∧ len ≤ cap ∧ (l.own = true → l.off + (off + cap) * l.es ≤ l.size)))

mutual
inductive VRep (β : Bt) : AV → Value → Prop
  | top (v : Value) : VRep β .top v
  | bl (b : Bool) : VRep β (.bl b) (.bool b)
  | bs (b : Bool) : VRep β (.bs b) (.bool b)
  | int (k : IntKind) (n : Int) : VRep β (.int k n) (.int k n)
  | flt (k : FloatKind) (x : Fl k) (b : Nat) : x.Is b → VRep β (.flt k x) (.float k b)
  | cpx (k : FloatKind) (x y : Fl k) (a b : Nat) : x.Is a → y.Is b → VRep β (.cpx k x y) (.complex k a b)
  | str (s : ByteArray) : VRep β (.str s) (.string s)
  | nilp : VRep β .nilp (.pointer none)
  | ptr (n i c : Nat) (l : Loc) : β n = some l → i < l.len → c < l.es → VRep β (.ptr n i c) (.pointer (some ⟨l.blk, l.off + (i * l.es + c), none⟩))
  | slc (n off len : Nat) (l : Loc) (a : Option Addr) (cap : Nat) : β n = some l → SlcOk l off len a cap → VRep β (.slc n off len) (.slice a len cap)
  | nils (κ : Option EK) (a : Option Addr) : VRep β (.nils κ) (.slice a 0 0)
  | fn (f : Fn) (a b : List AV) (a' b' : Array Value) : VReps β a a'.toList → VReps β b b'.toList → VRep β (.fn f a b) (.func f a' b')
  | agg (l : List AV) (cs : Array Value) : VReps β l cs.toList → VRep β (.agg l) (.agg cs)
  | arv (κ : EK) (l : List κ.den) (cs : Array Value) : VReps β (l.flatMap κ.cells) cs.toList → VRep β (.arv κ l) (.agg cs)
  | tup (l : List AV) (cs : Array Value) : VReps β l cs.toList → VRep β (.tup l) (.tuple cs)
inductive VReps (β : Bt) : List AV → List Value → Prop
  | nil : VReps β [] []
  | cons (v : AV) (u : Value) (r : List AV) (s : List Value) : VRep β v u → VReps β r s → VReps β (v :: r) (u :: s)
end

mutual
theorem VRep.mono {β β' : Bt} (hb : β.le β') : ∀ {v : AV} {u : Value}, VRep β v u → VRep β' v u
  | _, _, .top v => .top v
  | _, _, .bl b => .bl b
  | _, _, .bs b => .bs b
  | _, _, .int k n => .int k n
  | _, _, .flt k x b h => .flt k x b h
  | _, _, .cpx k x y a b h h' => .cpx k x y a b h h'
  | _, _, .str s => .str s
  | _, _, .nilp => .nilp
  | _, _, .ptr n i c l h h1 h2 => .ptr n i c l (hb _ _ h) h1 h2
  | _, _, .slc n o m l a cap h h1 => .slc n o m l a cap (hb _ _ h) h1
  | _, _, .nils κ a => .nils κ a
  | _, _, .fn f a b a' b' h h' => .fn f a b a' b' (VReps.mono hb h) (VReps.mono hb h')
  | _, _, .agg l cs h => .agg l cs (VReps.mono hb h)
  | _, _, .arv κ l cs h => .arv κ l cs (VReps.mono hb h)
  | _, _, .tup l cs h => .tup l cs (VReps.mono hb h)
theorem VReps.mono {β β' : Bt} (hb : β.le β') : ∀ {v : List AV} {u : List Value}, VReps β v u → VReps β' v u
  | _, _, .nil => .nil
  | _, _, .cons v u r s h h' => .cons v u r s (VRep.mono hb h) (VReps.mono hb h')
end

theorem VReps.length {β : Bt} : ∀ {l : List AV} {vs : List Value}, VReps β l vs → l.length = vs.length
  | _, _, .nil => rfl
  | _, _, .cons _ _ _ _ _ h => by simp [VReps.length h]

theorem VReps.get {β : Bt} : ∀ {l : List AV} {vs : List Value} (_ : VReps β l vs) (i : Nat) {v : AV}, l[i]? = some v → ∃ u, vs[i]? = some u ∧ VRep β v u
  | _, _, .nil, i, v, h => by simp at h
  | _, _, .cons a u r s h1 h2, 0, v, h => by simp at h; subst h; exact ⟨u, rfl, h1⟩
  | _, _, .cons a u r s h1 h2, i + 1, v, h => by simpa using VReps.get h2 i (by simpa using h)

theorem VReps.getD {β : Bt} {l : List AV} {vs : List Value} (h : VReps β l vs) (i : Nat) (d : Value) : VRep β (l.getD i .top) (vs.getD i d) := by
  cases hl : l[i]? with
  | none => simp [List.getD_eq_getElem?_getD, hl]; exact .top _
  | some v =>
    obtain ⟨u, hu, hv⟩ := h.get i hl
    simp [List.getD_eq_getElem?_getD, hl, hu]; exact hv

theorem VReps.set {β : Bt} : ∀ {l : List AV} {vs : List Value} (_ : VReps β l vs) (i : Nat) {v : AV} {u : Value}, VRep β v u → VReps β (l.set i v) (vs.set i u)
  | _, _, .nil, _, _, _, _ => .nil
  | _, _, .cons a b r s _ h2, 0, v, u, h => .cons v u r s h h2
  | _, _, .cons a b r s h1 h2, i + 1, v, u, h => .cons a b _ _ h1 (VReps.set h2 i h)

theorem VReps.append {β : Bt} : ∀ {l : List AV} {vs : List Value} {l' : List AV} {vs' : List Value}, VReps β l vs → VReps β l' vs' → VReps β (l ++ l') (vs ++ vs')
  | _, _, _, _, .nil, h => h
  | _, _, _, _, .cons _ _ _ _ h1 h2, h => .cons _ _ _ _ h1 (VReps.append h2 h)

theorem VReps.drop {β : Bt} : ∀ {l : List AV} {vs : List Value} (_ : VReps β l vs) (i : Nat), VReps β (l.drop i) (vs.drop i)
  | _, _, h, 0 => h
  | _, _, .nil, _ + 1 => by simpa using VReps.nil
  | _, _, .cons _ _ _ _ _ h2, i + 1 => VReps.drop h2 i

theorem VReps.take {β : Bt} : ∀ {l : List AV} {vs : List Value} (_ : VReps β l vs) (i : Nat), VReps β (l.take i) (vs.take i)
  | _, _, _, 0 => by simpa using VReps.nil
  | _, _, .nil, _ + 1 => by simpa using VReps.nil
  | _, _, .cons _ _ _ _ h1 h2, i + 1 => .cons _ _ _ _ h1 (VReps.take h2 i)

theorem VReps.tops {β : Bt} : ∀ (vs : List Value) (n : Nat), vs.length = n → VReps β (List.replicate n .top) vs
  | [], 0, _ => .nil
  | v :: r, n + 1, h => .cons _ _ _ _ (.top v) (VReps.tops r n (by simpa using h))
  | [], _ + 1, h => by simp at h
  | _ :: _, 0, h => by simp at h

theorem VReps.one {β : Bt} {v : AV} {u : Value} (h : VRep β v u) : VReps β [v] [u] := .cons _ _ _ _ h .nil

/-! ### Blocks -/
def Blk.own : Blk → Bool
  | .vals o _ => o
  | .arr o _ _ => o
  | .dead => false
def Blk.len : Blk → Nat
  | .vals _ l => l.length
  | .arr _ _ l => l.length
  | .dead => 0
def Blk.es : Blk → Nat
  | .vals _ _ => 1
  | .arr _ κ _ => κ.size
  | .dead => 0
def Blk.cl : Blk → List AV
  | .vals _ l => l
  | .arr _ κ l => l.flatMap κ.cells
  | .dead => []
def Blk.live : Blk → Prop
  | .dead => False
  | _ => True

theorem EK.size_pos : ∀ κ : EK, 0 < κ.size
  | .bool | .int _ | .flt _ | .cpx _ | .str => Nat.one_pos
  | .pair a b => by have := a.size_pos; show 0 < a.size + b.size; omega

theorem EK.cells_length : ∀ (κ : EK) (x : κ.den), (κ.cells x).length = κ.size
  | .bool, _ | .int _, _ | .flt _, _ | .cpx _, _ | .str, _ => rfl
  | .pair a b, x => by show ((a.cells x.1) ++ (b.cells x.2)).length = _; rw [List.length_append, EK.cells_length a, EK.cells_length b]; rfl

theorem flat_length (κ : EK) : ∀ l : List κ.den, (l.flatMap κ.cells).length = l.length * κ.size
  | [] => by simp
  | x :: r => by rw [List.flatMap_cons, List.length_append, EK.cells_length, flat_length κ r, List.length_cons, Nat.succ_mul]; omega

theorem Blk.cl_length (b : Blk) : b.cl.length = b.len * b.es := by
  cases b with
  | vals o l => simp [Blk.cl, Blk.len, Blk.es]
  | arr o κ l => exact flat_length κ l
  | dead => rfl

/-- cell c of element i -/
theorem flat_get (κ : EK) : ∀ (l : List κ.den) (i c : Nat) (x : κ.den), l[i]? = some x → c < κ.size → (l.flatMap κ.cells)[i * κ.size + c]? = (κ.cells x)[c]?
  | [], i, c, x, h, _ => by simp at h
  | y :: r, 0, c, x, h, hc => by
    simp at h; subst h
    rw [List.flatMap_cons, Nat.zero_mul, Nat.zero_add, List.getElem?_append_left (by rw [EK.cells_length]; exact hc)]
  | y :: r, i + 1, c, x, h, hc => by
    rw [List.flatMap_cons, List.getElem?_append_right (by rw [EK.cells_length, Nat.succ_mul]; omega), EK.cells_length]
    have : (i + 1) * κ.size + c - κ.size = i * κ.size + c := by rw [Nat.succ_mul]; omega
    rw [this]
    exact flat_get κ r i c x (by simpa using h) hc

/-- The cells of a block lie there. -/
def CRep (β : Bt) (w : World) (l : Loc) (cl : List AV) : Prop :=
  ∀ j v, cl[j]? = some v → ∃ u, w.cell? ⟨l.blk, l.off + j, none⟩ = some u ∧ VRep β v u

def OwnAt (w : World) (base : Nat) (l : Loc) : Prop :=
  0 < l.size → base ≤ l.blk ∧ (∃ cs e fr, w.heap[l.blk]? = some (.cells cs e fr) ∧ cs.size = l.size) ∧ ∀ o, o < l.size → w.frozen? ⟨l.blk, o, none⟩ = false

structure BRep (β : Bt) (w : World) (base : Nat) (l : Loc) (b : Blk) : Prop where
  own : l.own = b.own
  len : l.len = b.len
  es : l.es = b.es
  cells : CRep β w l b.cl
  mine : b.own = true → OwnAt w base l
  room : b.own = true → l.off + l.len * l.es ≤ l.size
  other : b.own = false → b.cl ≠ [] → l.blk < base

structure Rep (β : Bt) (h : Heap) (w : World) (base : Nat) : Prop where
  dom : ∀ n, hget h n = none → β n = none
  loc : ∀ n b, hget h n = some b → ∃ l, β n = some l
  blk : ∀ n b l, hget h n = some b → b.live → β n = some l → BRep β w base l b
  sep : ∀ n m b b' l l', n ≠ m → hget h n = some b → hget h m = some b' → b.live → b'.live → β n = some l → β m = some l' →
    l.own = true → l'.own = true → 0 < l.size → 0 < l'.size → l.blk ≠ l'.blk

end Go.Ab
