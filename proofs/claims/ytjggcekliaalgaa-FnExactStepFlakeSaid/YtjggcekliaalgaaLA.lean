/-
  Floats told up to a NaN's bits: 'Fl k', and that the model's operations are functions of them.
-/
import Derived.Laws.FloatArith
import Derived.Laws.FloatBits
import Derived.Orders
import Derived.Still
import Derived.Below
import Derived.ChangeKeysEq
import Derived.Laws.ComplexArith
import Derived.WalkKit
import Derived.Laws.Cells
namespace Go.Ab

/-- The NaN that stands for all. -/
def qn : FloatKind → Nat
  | .f32 => 2143289344
  | .f64 => 9221120237041090560

def nanB (k : FloatKind) (b : Nat) : Bool := (k.decode b).isNaN

def canon (k : FloatKind) (b : Nat) : Nat := bif nanB k b then qn k else b

theorem nan_qn (k : FloatKind) : nanB k (qn k) = true := by cases k <;> decide +kernel

theorem canon_canon (k : FloatKind) (b : Nat) : canon k (canon k b) = canon k b := by
  unfold canon
  cases h : nanB k b
  · simp [h]
  · simp [nan_qn]

theorem nan_canon (k : FloatKind) (b : Nat) : nanB k (canon k b) = nanB k b := by
  unfold canon
  cases h : nanB k b
  · simp [h]
  · simp [nan_qn]

theorem qn_lt (k : FloatKind) : qn k < 2 ^ k.format.width := by cases k <;> decide +kernel

theorem canon_lt {k : FloatKind} {b : Nat} (h : b < 2 ^ k.format.width) : canon k b < 2 ^ k.format.width := by
  unfold canon
  cases nanB k b
  · exact h
  · exact qn_lt k

structure Fl (k : FloatKind) where
  bits : Nat
  lt : bits < 2 ^ k.format.width
  can : canon k bits = bits

theorem Fl.ext {k : FloatKind} {x y : Fl k} (h : x.bits = y.bits) : x = y := by
  cases x; cases y; cases h; rfl

instance {k : FloatKind} : DecidableEq (Fl k) := fun x y =>
  if h : x.bits = y.bits then isTrue (Fl.ext h) else isFalse (fun e => h (by rw [e]))

def Fl.nan (k : FloatKind) : Fl k := ⟨qn k, qn_lt k, by unfold canon; rw [nan_qn]; rfl⟩

instance {k : FloatKind} : Inhabited (Fl k) := ⟨Fl.nan k⟩

def Fl.of (k : FloatKind) (b : Nat) : Fl k := if h : b < 2 ^ k.format.width then ⟨canon k b, canon_lt h, canon_canon k b⟩ else Fl.nan k

theorem Fl.of_bits {k : FloatKind} {b : Nat} (h : b < 2 ^ k.format.width) : (Fl.of k b).bits = canon k b := by
  unfold Fl.of; rw [dif_pos h]

theorem Fl.of_self {k : FloatKind} (x : Fl k) : Fl.of k x.bits = x := Fl.ext (by rw [Fl.of_bits x.lt, x.can])

/-- 'bits b' tells x. -/
def Fl.Is {k : FloatKind} (x : Fl k) (b : Nat) : Prop := b < 2 ^ k.format.width ∧ canon k b = x.bits

theorem Fl.is_of {k : FloatKind} {b : Nat} (h : b < 2 ^ k.format.width) : (Fl.of k b).Is b := ⟨h, (Fl.of_bits h).symm⟩

theorem Fl.is_self {k : FloatKind} (x : Fl k) : x.Is x.bits := ⟨x.lt, x.can⟩

theorem Fl.Is.eq {k : FloatKind} {x y : Fl k} {b : Nat} (h : x.Is b) (h' : y.Is b) : x = y := Fl.ext (h.2.symm.trans h'.2)

def Fl.isNaN {k : FloatKind} (x : Fl k) : Bool := nanB k x.bits

theorem Fl.Is.nan {k : FloatKind} {x : Fl k} {b : Nat} (h : x.Is b) : nanB k b = x.isNaN := by
  unfold Fl.isNaN; rw [← h.2, nan_canon]

/-- Either the bits are the number's own, or both are NaNs. -/
theorem Fl.Is.cases {k : FloatKind} {x : Fl k} {b : Nat} (h : x.Is b) : b = x.bits ∨ (nanB k b = true ∧ x = Fl.nan k) := by
  obtain ⟨_, h2⟩ := h
  unfold canon at h2
  cases hn : nanB k b
  · rw [hn] at h2; exact .inl h2
  · rw [hn] at h2; exact .inr ⟨rfl, Fl.ext h2.symm⟩

theorem Fl.is_nan {k : FloatKind} {b : Nat} (hl : b < 2 ^ k.format.width) (h : nanB k b = true) : (Fl.nan k).Is b :=
  ⟨hl, by unfold canon; rw [h]; rfl⟩

/-- What an operation of the model's core gives, NaNs as one. -/
def Fl.res (k : FloatKind) : Option Nat → Fl k
  | some r => Fl.of k r
  | none => Fl.nan k

/-- the bits that a drawn NaN has -/
theorem nan_drawn32 (t : Nat) : nanB .f32 ((t % 2) * 2 ^ 31 + 0x7f800000 + 1 + (t / 2) % (2 ^ 23 - 1)) = true ∧ (t % 2) * 2 ^ 31 + 0x7f800000 + 1 + (t / 2) % (2 ^ 23 - 1) < 2 ^ FloatKind.f32.format.width := by
  have h1 : t % 2 < 2 := Nat.mod_lt _ (by omega)
  have h2 : (t / 2) % (2 ^ 23 - 1) < 2 ^ 23 - 1 := Nat.mod_lt _ (by omega)
  have hw : FloatKind.f32.format.width = 32 := rfl
  refine ⟨?_, by rw [hw]; omega⟩
  have hs : Ieee.single.signWeight = 2 ^ 31 := rfl
  have hb : Ieee.single.binade = 2 ^ 23 := rfl
  have hi : Ieee.single.infRung = 0x7f800000 := rfl
  unfold nanB FloatKind.decode FloatKind.format Ieee.Format.read
  simp only [hs, hb, hi]
  have hm : ((t % 2) * 2 ^ 31 + 0x7f800000 + 1 + (t / 2) % (2 ^ 23 - 1)) % 2 ^ 31 = 0x7f800000 + 1 + (t / 2) % (2 ^ 23 - 1) := by omega
  rw [hm, if_neg (by omega), if_neg (by omega), if_neg (by omega)]
  rfl

theorem nan_drawn64 (t : Nat) : nanB .f64 ((t % 2) * 2 ^ 63 + 0x7ff0000000000000 + 1 + (t / 2) % (2 ^ 52 - 1)) = true ∧ (t % 2) * 2 ^ 63 + 0x7ff0000000000000 + 1 + (t / 2) % (2 ^ 52 - 1) < 2 ^ FloatKind.f64.format.width := by
  have h1 : t % 2 < 2 := Nat.mod_lt _ (by omega)
  have h2 : (t / 2) % (2 ^ 52 - 1) < 2 ^ 52 - 1 := Nat.mod_lt _ (by omega)
  have hw : FloatKind.f64.format.width = 64 := rfl
  refine ⟨?_, by rw [hw]; omega⟩
  have hs : Ieee.double.signWeight = 2 ^ 63 := rfl
  have hb : Ieee.double.binade = 2 ^ 52 := rfl
  have hi : Ieee.double.infRung = 0x7ff0000000000000 := rfl
  unfold nanB FloatKind.decode FloatKind.format Ieee.Format.read
  simp only [hs, hb, hi]
  have hm : ((t % 2) * 2 ^ 63 + 0x7ff0000000000000 + 1 + (t / 2) % (2 ^ 52 - 1)) % 2 ^ 63 = 0x7ff0000000000000 + 1 + (t / 2) % (2 ^ 52 - 1) := by omega
  rw [hm, if_neg (by omega), if_neg (by omega), if_neg (by omega)]
  rfl

/-! ### The operations -/

def fbin (op : BinOp) (k : FloatKind) (x y : Nat) : Option Nat := floatBits op k x y

theorem datum_nan {d : Ieee.Datum} (h : d.isNaN = true) : ∃ s t, d = .nan s t := by
  cases d <;> first | exact ⟨_, _, rfl⟩ | cases h

theorem floatBits_nan_left (op : BinOp) {k : FloatKind} {x : Nat} (y : Nat) (h : nanB k x = true) : floatBits op k x y = none := by
  obtain ⟨s, t, e⟩ := datum_nan h
  unfold FloatKind.decode at e
  unfold floatBits
  split <;> first | rfl | skip
  · unfold Ieee.Format.add; rw [e]; rfl
  · unfold Ieee.Format.sub; rw [e]; rfl
  · unfold Ieee.Format.mul; rw [e]; rfl
  · unfold Ieee.Format.div; rw [e]; rfl

theorem floatBits_nan_right (op : BinOp) {k : FloatKind} (x : Nat) {y : Nat} (h : nanB k y = true) : floatBits op k x y = none := by
  obtain ⟨s, t, e⟩ := datum_nan h
  unfold FloatKind.decode at e
  unfold floatBits
  split <;> first | rfl | skip
  · unfold Ieee.Format.add; rw [e]; cases k.format.read x <;> rfl
  · unfold Ieee.Format.sub; rw [e]; cases k.format.read x <;> rfl
  · unfold Ieee.Format.mul; rw [e]; cases k.format.read x <;> rfl
  · unfold Ieee.Format.div; rw [e]; cases k.format.read x <;> rfl

theorem floatBits_is (op : BinOp) {k : FloatKind} {x y : Fl k} {a b : Nat} (hx : x.Is a) (hy : y.Is b) : floatBits op k a b = floatBits op k x.bits y.bits := by
  rcases hx.cases with rfl | ⟨hn, rfl⟩
  · rcases hy.cases with rfl | ⟨hn, rfl⟩
    · rfl
    · rw [floatBits_nan_right op _ hn]; exact (floatBits_nan_right op _ (nan_qn k)).symm
  · rw [floatBits_nan_left op _ hn]; exact (floatBits_nan_left op _ (nan_qn k)).symm

def fadd {k : FloatKind} (x y : Fl k) : Fl k := Fl.res k (floatBits .add k x.bits y.bits)
def fsub {k : FloatKind} (x y : Fl k) : Fl k := Fl.res k (floatBits .sub k x.bits y.bits)
def fmul {k : FloatKind} (x y : Fl k) : Fl k := Fl.res k (floatBits .mul k x.bits y.bits)
def fdiv {k : FloatKind} (x y : Fl k) : Fl k := Fl.res k (floatBits .quo k x.bits y.bits)

/-- How two numbers stand to each other. -/
def ford {k : FloatKind} (x y : Fl k) : Option Ordering := k.format.order x.bits y.bits
def feq {k : FloatKind} (x y : Fl k) : Bool := ford x y == some .eq
def fne {k : FloatKind} (x y : Fl k) : Bool := ford x y != some .eq
def flt {k : FloatKind} (x y : Fl k) : Bool := ford x y == some .lt
def fle {k : FloatKind} (x y : Fl k) : Bool := ford x y == some .lt || ford x y == some .eq
def fgt {k : FloatKind} (x y : Fl k) : Bool := ford x y == some .gt
def fge {k : FloatKind} (x y : Fl k) : Bool := ford x y == some .gt || ford x y == some .eq

theorem order_nan_left {k : FloatKind} {x : Nat} (y : Nat) (h : nanB k x = true) : k.format.order x y = none := by
  obtain ⟨s, t, e⟩ := datum_nan h
  unfold FloatKind.decode at e
  unfold Ieee.Format.order; rw [e]; rfl

theorem order_nan_right {k : FloatKind} (x : Nat) {y : Nat} (h : nanB k y = true) : k.format.order x y = none := by
  obtain ⟨s, t, e⟩ := datum_nan h
  unfold FloatKind.decode at e
  unfold Ieee.Format.order; rw [e]; cases k.format.read x <;> rfl

theorem order_is {k : FloatKind} {x y : Fl k} {a b : Nat} (hx : x.Is a) (hy : y.Is b) : k.format.order a b = ford x y := by
  unfold ford
  rcases hx.cases with rfl | ⟨hn, rfl⟩
  · rcases hy.cases with rfl | ⟨hn, rfl⟩
    · rfl
    · rw [order_nan_right _ hn]; exact (order_nan_right _ (nan_qn k)).symm
  · rw [order_nan_left _ hn]; exact (order_nan_left _ (nan_qn k)).symm

/-- '-x'. -/
def fneg {k : FloatKind} (x : Fl k) : Fl k := Fl.of k (Op.negFloat k x.bits)

theorem negFloat_lt {k : FloatKind} {b : Nat} (h : b < 2 ^ k.format.width) : Op.negFloat k b < 2 ^ k.format.width := by
  unfold Op.negFloat
  refine Nat.xor_lt_two_pow h ?_
  cases k <;> decide

theorem read_neg (k : FloatKind) (b : Nat) (h : b < 2 ^ k.format.width) : nanB k (Op.negFloat k b) = nanB k b := by
  have key : ∀ e : Nat, ∀ c : Nat, c < 2 ^ (e + 1) → (c ^^^ 2 ^ e) % 2 ^ e = c % 2 ^ e := by
    intro e c _
    apply Nat.eq_of_testBit_eq
    intro i
    simp only [Nat.testBit_mod_two_pow, Nat.testBit_xor, Nat.testBit_two_pow]
    by_cases hi : i < e
    · have : ¬ (e = i) := by omega
      simp [hi, this]
    · simp [hi]
  have hm : Op.negFloat k b % k.format.signWeight = b % k.format.signWeight := by
    cases k
    · exact key 31 b h
    · exact key 63 b h
  unfold nanB FloatKind.decode Ieee.Format.read
  simp only [hm]
  split
  · rfl
  · split
    · rfl
    · split <;> rfl

theorem fneg_is {k : FloatKind} {x : Fl k} {a : Nat} (hx : x.Is a) : (fneg x).Is (Op.negFloat k a) := by
  refine ⟨negFloat_lt hx.1, ?_⟩
  unfold fneg
  rw [Fl.of_bits (negFloat_lt x.lt)]
  rcases hx.cases with rfl | ⟨hn, rfl⟩
  · rfl
  · unfold canon
    rw [read_neg k _ hx.1, read_neg k _ (Fl.nan k).lt, hn]
    show qn k = bif nanB k (qn k) then _ else _
    rw [nan_qn]; rfl

/-- an integer as a float -/
def fofInt (k : FloatKind) (n : Int) : Fl k := Fl.of k (k.nearest n)

theorem nearest_wf (k : FloatKind) (n : Int) : k.nearest n < 2 ^ k.format.width := by unfold FloatKind.nearest FloatKind.encode; exact k.format.write_lt _

/-- 'float32(x)' of a float64: none: a finite number too great: the language leaves it open. -/
def fconv (s d : FloatKind) (x : Fl s) : Option (Fl d) :=
  match s.decode x.bits with
  | .nan _ _ => some (Fl.nan d)
  | .infinity g => some (Fl.of d (d.encode (.infinity g)))
  | .number g m e => if (d.decode (d.encode (.number g m e))).isInfinity then none else some (Fl.of d (d.encode (.number g m e)))

/-- a float as an integer: none: open -/
def ftoInt {k : FloatKind} (x : Fl k) (d : IntKind) : Option Int := floatToIntVal k x.bits d

theorem floatToIntVal_is {k : FloatKind} {x : Fl k} {a : Nat} (hx : x.Is a) (d : IntKind) : floatToIntVal k a d = ftoInt x d := by
  unfold ftoInt
  rcases hx.cases with rfl | ⟨hn, rfl⟩
  · rfl
  · have h0 : ∀ b, nanB k b = true → floatToIntVal k b d = none := by
      intro b hb
      obtain ⟨s, t, e⟩ := datum_nan hb
      unfold floatToIntVal
      rw [e]; rfl
    rw [h0 _ hn]; exact (h0 _ (nan_qn k)).symm

theorem fconv_nan_nan {s : FloatKind} (d : FloatKind) : fconv s d (Fl.nan s) = some (Fl.nan d) := by
  obtain ⟨g, t, e⟩ := datum_nan (nan_qn s)
  unfold fconv
  show (match s.decode (qn s) with | .nan _ _ => _ | .infinity g => _ | .number g m e => _) = _
  rw [e]

end Go.Ab

/-
  An evaluator of the program's code over abstract values: data, not memory; floats up to a NaN's bits. This file: the definitions.
-/
namespace Go.Ab

/-- Kinds of elements. -/
inductive EK where
  | bool | int (k : IntKind) | flt (k : FloatKind) | cpx (k : FloatKind) | str | pair (a b : EK)
  deriving DecidableEq, Inhabited

@[reducible] def EK.den : EK → Type
  | .bool => Bool
  | .int _ => Int
  | .flt k => Fl k
  | .cpx k => Fl k × Fl k
  | .str => ByteArray
  | .pair a b => a.den × b.den

/-- Abstract values. 'ptr n i c': cell c of element i of block n. 'slc n off len': elements of block n. 'nils': length 0, capacity 0. -/
inductive AV where
  | top
  | bl (b : Bool)
  | bs (b : Bool)
  | int (k : IntKind) (n : Int)
  | flt (k : FloatKind) (x : Fl k)
  | cpx (k : FloatKind) (x y : Fl k)
  | str (s : ByteArray)
  | nilp
  | ptr (n i c : Nat)
  | slc (n off len : Nat)
  | nils (κ : Option EK)
  | fn (f : Fn) (first cap : List AV)
  | agg (l : List AV)
  | arv (κ : EK) (l : List κ.den)
  | tup (l : List AV)
  deriving Inhabited

def EK.size : EK → Nat
  | .pair a b => a.size + b.size
  | _ => 1

def EK.dflt : (κ : EK) → κ.den
  | .bool => false
  | .int _ => (0 : Int)
  | .flt k => Fl.nan k
  | .cpx k => (Fl.nan k, Fl.nan k)
  | .str => ByteArray.empty
  | .pair a b => (a.dflt, b.dflt)

def EK.cells : (κ : EK) → κ.den → List AV
  | .bool, b => [.bs b]
  | .int k, n => [.int k n]
  | .flt k, x => [.flt k x]
  | .cpx k, x => [.cpx k x.1 x.2]
  | .str, s => [.str s]
  | .pair a b, x => a.cells x.1 ++ b.cells x.2

/-- as one value: a lone cell, or the cells together -/
def EK.val (κ : EK) (x : κ.den) : AV :=
  match κ, x with
  | .bool, b => .bs b
  | .int k, n => .int k n
  | .flt k, x => .flt k x
  | .cpx k, x => .cpx k x.1 x.2
  | .str, s => .str s
  | .pair a b, x => .agg ((EK.pair a b).cells x)

def EK.of : (κ : EK) → List AV → Option κ.den
  | .bool, [.bs b] => some b
  | .bool, [.bl b] => some b
  | .int k, [.int k' n] => if k' = k then some n else none
  | .flt k, [.flt k' x] => if h : k' = k then some (h ▸ x) else none
  | .cpx k, [.cpx k' x y] => if h : k' = k then some (h ▸ x, h ▸ y) else none
  | .str, [.str s] => some s
  | .pair a b, l => match a.of (l.take a.size), b.of (l.drop a.size) with
    | some x, some y => some (x, y)
    | _, _ => none
  | _, _ => none

/-- An element with some of its cells turned. -/
def EK.upd (κ : EK) (x : κ.den) (c : Nat) (vs : List AV) : Option κ.den :=
  match κ, x with
  | .pair a b, x => (EK.pair a b).of ((((EK.pair a b).cells x).take c) ++ vs ++ (((EK.pair a b).cells x).drop (c + vs.length)))
  | κ, _ => κ.of vs

/-- A block of memory. -/
inductive Blk where
  | vals (own : Bool) (l : List AV)
  | arr (own : Bool) (κ : EK) (l : List κ.den)
  | dead
  deriving Inhabited

abbrev Heap := List (Nat × Blk)

def hget : Heap → Nat → Option Blk
  | [], _ => none
  | (m, b) :: r, n => bif Nat.beq m n then some b else hget r n

def hset : Heap → Nat → Blk → Heap
  | [], _, _ => []
  | (m, b) :: r, n, b' => bif Nat.beq m n then (m, b') :: r else (m, b) :: hset r n b'

/-- What an evaluation gives: a tree over what is not decided. -/
inductive T (α : Type) : Type 1 where
  | fail
  | ret (a : α)
  | node (b : Bool) (t f : T α)
  | bnd {β : Type} (o : Option β) (k : β → T α)
  | cas {β γ : Type} (r : β ⊕ γ) (k : β → T α) (l : γ → T α)
  | miss {β : Type} (b : β)

def T.bind {α β : Type} : T α → (α → T β) → T β
  | .fail, _ => .fail
  | .ret a, k => k a
  | .node b t f, k => .node b (t.bind k) (f.bind k)
  | .bnd o j, k => .bnd o fun x => (j x).bind k
  | .cas r j l, k => .cas r (fun x => (j x).bind k) (fun x => (l x).bind k)
  | .miss b, _ => .miss b

def T.den {α : Type} : T α → Option α
  | .fail => none
  | .ret a => some a
  | .node b t f => bif b then t.den else f.den
  | .bnd o k => o.bind fun x => (k x).den
  | .cas r k l => match r with
    | .inl x => (k x).den
    | .inr x => (l x).den
  | .miss _ => none

def T.map {α β : Type} (g : α → β) (t : T α) : T β := t.bind fun a => .ret (g a)
def T.opt {α : Type} : Option α → T α
  | some a => .ret a
  | none => .fail
/-- a check that must hold -/
def T.ifb {α : Type} (b : Bool) (t : T α) : T α := .node b t .fail

/-! ### Types -/
inductive TyD where
  | bool | int (k : IntKind) | flt (k : FloatKind) | cpx (k : FloatKind) | str | slc (e : Nat) | arr (n e : Nat) | struct (fs : List (Nat × Nat)) | ptr (e : Nat) | fn | other
  deriving DecidableEq, Inhabited

structure TyI where
  d : TyD
  size : Nat
  bytes : Nat
  zero : List AV
  ek : Option EK
  deriving Inhabited

def TyI.isAgg (t : TyI) : Bool := match t.d with | .struct _ | .arr _ _ => true | _ => false

/-! ### Shapes of data that calls take and give -/
inductive DS where
  | bool | int (k : IntKind) | flt (k : FloatKind) | cpx (k : FloatKind) | str | list (κ : EK) | agg (l : List DS) | ptr (d : DS)
  deriving Inhabited

mutual
@[reducible] def DS.den : DS → Type
  | .bool => Bool
  | .int _ => Int
  | .flt k => Fl k
  | .cpx k => Fl k × Fl k
  | .str => ByteArray
  | .list κ => List κ.den
  | .agg l => DS.dens l
  | .ptr d => d.den
@[reducible] def DS.dens : List DS → Type
  | [] => Unit
  | [d] => d.den
  | d :: e :: r => d.den × DS.dens (e :: r)
end

/-- 'sub l off len': the elements. -/
def sub {α : Type} (l : List α) (off len : Nat) : List α := (l.drop off).take len

mutual
def DS.read (h : Heap) : (d : DS) → AV → Option d.den
  | .bool, .bs b => some b
  | .bool, .bl b => some b
  | .int k, .int k' n => if k' = k then some n else none
  | .flt k, .flt k' x => if e : k' = k then some (e ▸ x) else none
  | .cpx k, .cpx k' x y => if e : k' = k then some (e ▸ x, e ▸ y) else none
  | .str, .str s => some s
  | .list _, .nils _ => some []
  | .list κ, .slc n off len => match hget h n with
    | some (.arr _ κ' l) => if e : κ' = κ then some (e ▸ sub l off len) else none
    | _ => none
  | .agg l, .agg vs => DS.reads h l vs
  | .ptr d, .ptr n i c => match hget h n with
    | some (.vals _ l) => match d with
      | .agg ds => if c = 0 ∧ i + ds.length ≤ l.length then DS.reads h ds ((l.drop i).take ds.length) else none
      | _ => none
    | _ => none
  | _, _ => none
def DS.reads (h : Heap) : (d : List DS) → List AV → Option (DS.dens d)
  | [], [] => some ()
  | [d], [v] => d.read h v
  | d :: e :: r, v :: vs => match d.read h v, DS.reads h (e :: r) vs with
    | some x, some y => some (x, y)
    | _, _ => none
  | _, _ => none
end

/-- A result laid out: its value, new blocks, how many names are used. -/
def DS.lay (nm : Nat) : (d : DS) → d.den → Nat → AV × Heap × Nat
  | .bool, b, j => (.bs b, [], j)
  | .int k, n, j => (.int k n, [], j)
  | .flt k, x, j => (.flt k x, [], j)
  | .cpx k, x, j => (.cpx k x.1 x.2, [], j)
  | .str, s, j => (.str s, [], j)
  | .list κ, l, j => (.slc (nm + j) 0 l.length, [(nm + j, .arr true κ l)], j + 1)
  | _, _, j => (.top, [], j)

/-- cells of a struct: each one plain or a list -/
def DS.lays (nm : Nat) : (d : List DS) → DS.dens d → Nat → List AV × Heap × Nat
  | [], _, j => ([], [], j)
  | [d], x, j => let (v, h, j') := d.lay nm x j; ([v], h, j')
  | d :: e :: r, x, j =>
    let (v, h, j') := d.lay nm x.1 j
    let (vs, h', j'') := DS.lays nm (e :: r) x.2 j'
    (v :: vs, h ++ h', j'')

/-- A result as a whole: a plain one, a struct, or a tuple of these. -/
def DS.layRes (nm : Nat) : (d : DS) → d.den → Nat → AV × Heap × Nat
  | .agg l, x, j => let (vs, h, j') := DS.lays nm l x j; (.agg vs, h, j')
  | .bool, b, j => DS.lay nm .bool b j
  | .int k, n, j => DS.lay nm (.int k) n j
  | .flt k, x, j => DS.lay nm (.flt k) x j
  | .cpx k, x, j => DS.lay nm (.cpx k) x j
  | .str, s, j => DS.lay nm .str s j
  | .list κ, l, j => DS.lay nm (.list κ) l j
  | .ptr _, _, j => (.top, [], j)

def DS.layTup (nm : Nat) : (d : List DS) → DS.dens d → Nat → List AV × Heap × Nat
  | [], _, j => ([], [], j)
  | [d], x, j => let (v, h, j') := d.layRes nm x j; ([v], h, j')
  | d :: e :: r, x, j =>
    let (v, h, j') := d.layRes nm x.1 j
    let (vs, h', j'') := DS.layTup nm (e :: r) x.2 j'
    (v :: vs, h ++ h', j'')

/-- What a function does, as a plain function of data. -/
structure FSpec where
  args : List DS
  res : List DS
  F : DS.dens args → Option (DS.dens res)

end Go.Ab

/-
  The evaluator: what operations, code and calls do to abstract values. Definitions alone.
-/
namespace Go.Ab

structure St where
  tm : List AV
  hp : Heap
  deriving Inhabited

inductive Ex where
  | nrm | ext (id : Nat) | ret
  deriving DecidableEq, Inhabited

/-! ### Shapes of states -/
mutual
inductive Sh where
  | top | bool | int (k : IntKind) | flt (k : FloatKind) | cpx (k : FloatKind) | str | nilp | ptr (n i c : Nat) | slc (n : Nat) | slo (n : Nat) | arv (κ : EK) | fn (f : Fn) (a b : Shs) | agg (l : Shs)
inductive Shs where
  | nil
  | cons (s : Sh) (r : Shs)
end

instance : Inhabited Sh := ⟨.top⟩
instance : Inhabited Shs := ⟨.nil⟩

def Shs.of : List Sh → Shs
  | [] => .nil
  | s :: r => .cons s (Shs.of r)

/-- 'n' slots, of which some are known -/
def Shs.at (n : Nat) (l : List (Nat × Sh)) : Shs := Shs.of ((List.range n).map fun i => ((l.find? fun p => Nat.beq p.1 i).map (·.2)).getD .top)

mutual
@[reducible] def Sh.den : Sh → Type
  | .top | .nilp | .ptr _ _ _ => Unit
  | .bool => Bool
  | .int _ => Int
  | .flt k => Fl k
  | .cpx k => Fl k × Fl k
  | .str => ByteArray
  | .slc _ => Nat
  | .slo _ => Nat × Nat
  | .arv κ => List κ.den
  | .fn _ a b => a.den × b.den
  | .agg l => l.den
@[reducible] def Shs.den : Shs → Type
  | .nil => Unit
  | .cons .top r => r.den
  | .cons .nilp r => r.den
  | .cons (.ptr _ _ _) r => r.den
  | .cons s r => s.den × r.den
end

mutual
def Sh.fill : (s : Sh) → s.den → AV
  | .top, _ => .top
  | .nilp, _ => .nilp
  | .ptr n i c, _ => .ptr n i c
  | .bool, b => .bs b
  | .int k, n => .int k n
  | .flt k, x => .flt k x
  | .cpx k, x => .cpx k x.1 x.2
  | .str, s => .str s
  | .slc n, m => .slc n 0 m
  | .slo n, m => .slc n m.1 m.2
  | .arv κ, l => .arv κ l
  | .fn f a b, x => .fn f (a.fill x.1) (b.fill x.2)
  | .agg l, x => .agg (l.fill x)
def Shs.fill : (s : Shs) → s.den → List AV
  | .nil, _ => []
  | .cons .top r, x => .top :: r.fill x
  | .cons .nilp r, x => .nilp :: r.fill x
  | .cons (.ptr n i c) r, x => .ptr n i c :: r.fill x
  | .cons .bool r, x => Sh.bool.fill x.1 :: r.fill x.2
  | .cons (.int k) r, x => (Sh.int k).fill x.1 :: r.fill x.2
  | .cons (.flt k) r, x => (Sh.flt k).fill x.1 :: r.fill x.2
  | .cons (.cpx k) r, x => (Sh.cpx k).fill x.1 :: r.fill x.2
  | .cons .str r, x => Sh.str.fill x.1 :: r.fill x.2
  | .cons (.slc n) r, x => (Sh.slc n).fill x.1 :: r.fill x.2
  | .cons (.slo n) r, x => (Sh.slo n).fill x.1 :: r.fill x.2
  | .cons (.arv κ) r, x => (Sh.arv κ).fill x.1 :: r.fill x.2
  | .cons (.fn f a b) r, x => (Sh.fn f a b).fill x.1 :: r.fill x.2
  | .cons (.agg l) r, x => (Sh.agg l).fill x.1 :: r.fill x.2
end

deriving instance DecidableEq for Fn

mutual
def Sh.get : (s : Sh) → AV → Option s.den
  | .top, _ => some ()
  | .nilp, .nilp => some ()
  | .ptr n i c, .ptr n' i' c' => bif Nat.beq n n' && Nat.beq i i' && Nat.beq c c' then some () else none
  | .bool, .bs b => some b
  | .int k, .int k' n => if k' = k then some n else none
  | .flt k, .flt k' x => if e : k' = k then some (e ▸ x) else none
  | .cpx k, .cpx k' x y => if e : k' = k then some (e ▸ x, e ▸ y) else none
  | .str, .str s => some s
  | .slc n, .slc n' off m => bif Nat.beq n n' && Nat.beq off 0 then some m else none
  | .slo n, .slc n' off m => bif Nat.beq n n' then some (off, m) else none
  | .arv κ, .arv κ' l => if e : κ' = κ then some (e ▸ l) else none
  | .fn f a b, .fn f' a' b' => if f' = f then (match a.get a', b.get b' with | some x, some y => some (x, y) | _, _ => none) else none
  | .agg l, .agg l' => l.get l'
  | _, _ => none
def Shs.get : (s : Shs) → List AV → Option s.den
  | .nil, [] => some ()
  | .cons .top r, _ :: l => r.get l
  | .cons .nilp r, v :: l => match Sh.nilp.get v, r.get l with | some _, some y => some y | _, _ => none
  | .cons (.ptr n i c) r, v :: l => match (Sh.ptr n i c).get v, r.get l with | some _, some y => some y | _, _ => none
  | .cons .bool r, v :: l => match Sh.bool.get v, r.get l with | some x, some y => some (x, y) | _, _ => none
  | .cons (.int k) r, v :: l => match (Sh.int k).get v, r.get l with | some x, some y => some (x, y) | _, _ => none
  | .cons (.flt k) r, v :: l => match (Sh.flt k).get v, r.get l with | some x, some y => some (x, y) | _, _ => none
  | .cons (.cpx k) r, v :: l => match (Sh.cpx k).get v, r.get l with | some x, some y => some (x, y) | _, _ => none
  | .cons .str r, v :: l => match Sh.str.get v, r.get l with | some x, some y => some (x, y) | _, _ => none
  | .cons (.slc n) r, v :: l => match (Sh.slc n).get v, r.get l with | some x, some y => some (x, y) | _, _ => none
  | .cons (.slo n) r, v :: l => match (Sh.slo n).get v, r.get l with | some x, some y => some (x, y) | _, _ => none
  | .cons (.arv κ) r, v :: l => match (Sh.arv κ).get v, r.get l with | some x, some y => some (x, y) | _, _ => none
  | .cons (.fn f a b) r, v :: l => match (Sh.fn f a b).get v, r.get l with | some x, some y => some (x, y) | _, _ => none
  | .cons (.agg s) r, v :: l => match (Sh.agg s).get v, r.get l with | some x, some y => some (x, y) | _, _ => none
  | _, _ => none
end

inductive BSh where
  | vals (own : Bool) (l : Shs)
  | arr (own : Bool) (κ : EK)

@[reducible] def BSh.den : BSh → Type
  | .vals _ l => l.den
  | .arr _ κ => List κ.den
def BSh.fill : (s : BSh) → s.den → Blk
  | .vals o l, x => .vals o (l.fill x)
  | .arr o κ, x => .arr o κ x
def BSh.get : (s : BSh) → Blk → Option s.den
  | .vals o l, .vals o' l' => bif o == o' then l.get l' else none
  | .arr o κ, .arr o' κ' l => if e : κ' = κ then (bif o == o' then some (e ▸ l) else none) else none
  | _, _ => none

@[reducible] def HSh.den : List (Nat × BSh) → Type
  | [] => Unit
  | p :: r => p.2.den × HSh.den r
def HSh.fill : (s : List (Nat × BSh)) → HSh.den s → Heap
  | [], _ => []
  | p :: r, x => (p.1, p.2.fill x.1) :: HSh.fill r x.2
def HSh.get : (s : List (Nat × BSh)) → Heap → Option (HSh.den s)
  | [], [] => some ()
  | p :: r, (n, b) :: h => bif Nat.beq p.1 n then (match p.2.get b, HSh.get r h with | some x, some y => some (x, y) | _, _ => none) else none
  | _, _ => none

structure SSh where
  tm : Shs
  hp : List (Nat × BSh)

@[reducible] def SSh.den (s : SSh) : Type := s.tm.den × HSh.den s.hp
def SSh.fill (s : SSh) (x : s.den) : St := ⟨s.tm.fill x.1, HSh.fill s.hp x.2⟩
def SSh.get (s : SSh) (t : St) : Option s.den :=
  match s.tm.get t.tm, HSh.get s.hp t.hp with
  | some x, some y => some (x, y)
  | _, _ => none

/-- A loop: what is kept of a state at its head, its form there; how it is left, what is kept then; how many rounds there are at most. -/
structure LExit where
  ex : Ex
  keep : List Nat
  sh : SSh
structure LSpec where
  keep : List Nat
  sh : SSh
  exits : List LExit
  fuel : sh.den → Nat

@[reducible] def ExDen : List LExit → Type
  | [] => Empty
  | [e] => e.sh.den
  | e :: f :: r => e.sh.den ⊕ ExDen (f :: r)

def exOut : (l : List LExit) → ExDen l → T (Ex × St)
  | [], _ => .fail
  | [e], x => .ret (e.ex, e.sh.fill x)
  | e :: f :: r, x => .cas x (fun y => .ret (e.ex, e.sh.fill y)) (fun y => exOut (f :: r) y)

structure Ctx where
  ty : Nat → Option TyI
  fns : Nat → Option Func
  spec : Nat → Option FSpec
  loop : (fn key nm : Nat) → Option LSpec

/-! ### Small things -/
def ofConst0 : Value → AV
  | .bool b => .bl b
  | .int k n => .int k n
  | .float k b => .flt k (Fl.of k b)
  | .complex k a b => .cpx k (Fl.of k a) (Fl.of k b)
  | .string s => .str s
  | .pointer none => .nilp
  | .slice none 0 0 => .nils none
  | _ => .top
def ofConst : Value → AV
  | .agg cs => .agg (cs.toList.map ofConst0)
  | v => ofConst0 v

def opv (tm : List AV) : Operand → AV
  | .tmp t => tm.getD t .top
  | .const v => ofConst v
  | .func f => .fn (.func f) [] []
  | .global _ => .top

def strEq (s t : ByteArray) : Bool := s.toList == t.toList
def sget (s : ByteArray) (i : Nat) : Int := ((s.data.getD i 0).toNat : Int)
def ibits (op : BinOp) (k : IntKind) (x y : Int) : Int :=
  let a := BitVec.ofInt k.bits x
  let b := BitVec.ofInt k.bits y
  match op with
  | .and => k.wrap (a &&& b).toNat
  | .or => k.wrap (a ||| b).toNat
  | .xor => k.wrap (a ^^^ b).toNat
  | _ => k.wrap (a &&& ~~~b).toNat
def shN (k : IntKind) (y : Int) : Nat := min y.toNat k.bits

def isZeroConst : Operand → Option Bool
  | .const (.int _ n) => some (n == 0)
  | _ => none

def binInt (op : BinOp) (k : IntKind) (x y : Int) (yo : Operand) : T AV :=
  match op with
  | .add => .ret (.int k (k.wrap (x + y)))
  | .sub => .ret (.int k (k.wrap (x - y)))
  | .mul => .ret (.int k (k.wrap (x * y)))
  | .quo => match isZeroConst yo with
    | some true => .fail
    | some false => .ret (.int k (k.wrap (x.tdiv y)))
    | none => .ifb (y != 0) (.ret (.int k (k.wrap (x.tdiv y))))
  | .rem => match isZeroConst yo with
    | some true => .fail
    | some false => .ret (.int k (x.tmod y))
    | none => .ifb (y != 0) (.ret (.int k (x.tmod y)))
  | .and | .or | .xor | .andNot => .ret (.int k (ibits op k x y))
  | .eql => .ret (.bs (x == y))
  | .neq => .ret (.bs (x != y))
  | .lss => .ret (.bs (decide (x < y)))
  | .leq => .ret (.bs (decide (x ≤ y)))
  | .gtr => .ret (.bs (decide (x > y)))
  | .geq => .ret (.bs (decide (x ≥ y)))
  | _ => .fail

def binFlt (op : BinOp) (k : FloatKind) (x y : Fl k) : T AV :=
  match op with
  | .add => .ret (.flt k (fadd x y))
  | .sub => .ret (.flt k (fsub x y))
  | .mul => .ret (.flt k (fmul x y))
  | .quo => .ret (.flt k (fdiv x y))
  | .eql => .ret (.bs (feq x y))
  | .neq => .ret (.bs (fne x y))
  | .lss => .ret (.bs (Go.Ab.flt x y))
  | .leq => .ret (.bs (fle x y))
  | .gtr => .ret (.bs (fgt x y))
  | .geq => .ret (.bs (fge x y))
  | _ => .fail

def isBoolTy (Γ : Ctx) (t : Nat) : Bool := match Γ.ty t with | some ⟨.bool, _, _, _, _⟩ => true | _ => false

def binOpA (Γ : Ctx) (op : BinOp) (xt : Nat) (a b : AV) (yo : Operand) : T AV :=
  match op, a, b with
  | .shl, .int k x, .int _ y => .ifb (decide (0 ≤ y)) (.ret (.int k (k.wrap (x * 2 ^ shN k y))))
  | .shr, .int k x, .int _ y => .ifb (decide (0 ≤ y)) (.ret (.int k (x.fdiv (2 ^ shN k y))))
  | op, .int k x, .int k' y => if k = k' then binInt op k x y yo else .fail
  | op, .flt k x, .flt k' y => if e : k' = k then binFlt op k x (e ▸ y) else .fail
  | .add, .cpx k x y, .cpx k' z u => if e : k' = k then .ret (.cpx k (fadd x (e ▸ z)) (fadd y (e ▸ u))) else .fail
  | .sub, .cpx k x y, .cpx k' z u => if e : k' = k then .ret (.cpx k (fsub x (e ▸ z)) (fsub y (e ▸ u))) else .fail
  | .eql, .cpx k x y, .cpx k' z u => if e : k' = k then .ret (.bs (feq x (e ▸ z) && feq y (e ▸ u))) else .fail
  | .neq, .cpx k x y, .cpx k' z u => if e : k' = k then .ret (.bs !(feq x (e ▸ z) && feq y (e ▸ u))) else .fail
  | .add, .str s, .str t => .ifb (decide (s.size + t.size ≤ 9223372036854775807)) (.ret (.str (s ++ t)))
  | .eql, .str s, .str t => .ret (.bs (strEq s t))
  | .neq, .str s, .str t => .ret (.bs !(strEq s t))
  | .eql, .bs x, .bs y => if isBoolTy Γ xt then .ret (.bs (x == y)) else .fail
  | .eql, .bs x, .bl y => if isBoolTy Γ xt then .ret (.bs (x == y)) else .fail
  | .eql, .bl x, .bs y => if isBoolTy Γ xt then .ret (.bs (x == y)) else .fail
  | .eql, .bl x, .bl y => if isBoolTy Γ xt then .ret (.bl (x == y)) else .fail
  | .neq, .bs x, .bs y => if isBoolTy Γ xt then .ret (.bs (!(x == y))) else .fail
  | .neq, .bs x, .bl y => if isBoolTy Γ xt then .ret (.bs (!(x == y))) else .fail
  | .neq, .bl x, .bs y => if isBoolTy Γ xt then .ret (.bs (!(x == y))) else .fail
  | .neq, .bl x, .bl y => if isBoolTy Γ xt then .ret (.bl (!(x == y))) else .fail
  | _, _, _ => .fail

def isNilConst : Operand → Bool
  | .const (.slice none 0 0) => true
  | _ => false
def isSlcTy (Γ : Ctx) (t : Nat) : Bool := match Γ.ty t with | some ⟨.slc _, _, _, _, _⟩ => true | _ => false
/-- a slice that has elements is not nil -/
def nilCmp (Γ : Ctx) (op : BinOp) (t : Nat) (a : AV) (yo : Operand) : Option (T AV) :=
  match op, a with
  | .eql, .slc _ _ len => bif isNilConst yo && isSlcTy Γ t then some (.ifb (decide (0 < len)) (.ret (.bl false))) else none
  | .neq, .slc _ _ len => bif isNilConst yo && isSlcTy Γ t then some (.ifb (decide (0 < len)) (.ret (.bl true))) else none
  | _, _ => none

def unOpA (op : UnOp) (a : AV) : T AV :=
  match op, a with
  | .neg, .int k n => .ret (.int k (k.wrap (0 - n)))
  | .neg, .flt k x => .ret (.flt k (fneg x))
  | .neg, .cpx k x y => .ret (.cpx k (fneg x) (fneg y))
  | .not, .bs b => .ret (.bs !b)
  | .not, .bl b => .ret (.bl !b)
  | _, _ => .fail

/-- a list of a block's cells, by elements -/
def chunks (κ : EK) : (n : Nat) → List AV → Option (List κ.den)
  | 0, [] => some []
  | 0, _ => none
  | n + 1, l => match κ.of (l.take κ.size), chunks κ n (l.drop κ.size) with
    | some x, some r => some (x :: r)
    | _, _ => none

/-- cells of a new variable: nil slices get a name, and a block of nothing -/
def phant (nm : Nat) : Nat → List AV → List AV × Heap
  | _, [] => ([], [])
  | j, .nils (some κ) :: r => let (l, h) := phant nm (j + 1) r; (.slc (nm + j) 0 0 :: l, (nm + j, .arr true κ []) :: h)
  | j, v :: r => let (l, h) := phant nm j r; (v :: l, h)

/-- a value of one cell -/
def cellB : AV → Bool
  | .top | .agg _ | .arv _ _ | .tup _ => false
  | _ => true

/-- A new variable with a value. -/
def newVarA (Γ : Ctx) (nm : Nat) (ti : TyI) (v : AV) : T (AV × Heap) :=
  match v with
  | .arv κ l => .ifb (decide (0 < l.length)) (.ret (.ptr nm 0 0, [(nm, .arr true κ l)]))
  | .agg cs => match ti.d with
    | .arr n e => match (Γ.ty e).bind (·.ek) with
      | some κ => match chunks κ n cs with
        | some l => if n = 0 then .fail else .ret (.ptr nm 0 0, [(nm, .arr true κ l)])
        | none => .fail
      | none => .fail
    | _ => let (l, h) := phant (nm * 1024 + 900) 0 cs; if cs.length = 0 then .fail else .ret (.ptr nm 0 0, (nm, .vals true l) :: h)
  | .top => .fail
  | .tup _ => .fail
  | v => if ti.isAgg then .fail else let (l, h) := phant (nm * 1024 + 900) 0 [v]; .ret (.ptr nm 0 0, (nm, .vals true l) :: h)

def loadA (Γ : Ctx) (h : Heap) (t : Nat) (p : AV) : T AV :=
  match Γ.ty t, p with
  | some ti, .ptr n i c => match hget h n with
    | some (.vals _ l) => if ti.isAgg then (if c = 0 ∧ i + ti.size ≤ l.length then .ret (.agg ((l.drop i).take ti.size)) else .fail)
        else if c = 0 then T.opt l[i]? else .fail
    | some (.arr _ κ l) =>
      if ti.isAgg then
        if c = 0 ∧ ti.size = κ.size ∧ κ.size ≠ 1 then .ret (.agg (κ.cells (l.getD i κ.dflt)))
        else match ti.d with
          | .arr m _ => if c = 0 ∧ i = 0 then .ifb (decide (l.length = m) && (m * κ.size == ti.size)) (.ret (.arv κ l)) else .fail
          | _ => .fail
      else T.opt (κ.cells (l.getD i κ.dflt))[c]?
    | _ => .fail
  | _, _ => .fail

def splice (l : List AV) (i : Nat) (vs : List AV) : List AV := l.take i ++ vs ++ l.drop (i + vs.length)

def storeA (Γ : Ctx) (h : Heap) (t : Nat) (p v : AV) : T Heap :=
  match Γ.ty t, p with
  | some ti, .ptr n i c =>
    let cs : Option (List AV) := match v with
      | .agg l => if ti.isAgg = true ∧ l.length = ti.size ∧ l.all cellB = true then some l else none
      | .top | .tup _ | .arv _ _ | .nils _ => none
      | v => if ti.isAgg = true ∨ ti.size ≠ 1 then none else some [v]
    match cs, hget h n with
    | some cs, some (.vals true l) => if c = 0 ∧ i + cs.length ≤ l.length then .ret (hset h n (.vals true (splice l i cs))) else .fail
    | some cs, some (.arr true κ l) => if κ.size < cs.length then
        (if i = 0 ∧ c = 0 ∧ cs.length = l.length * κ.size then
          match chunks κ l.length cs with
          | some l' => .ret (hset h n (.arr true κ l'))
          | none => .fail
        else .fail)
      else match κ.upd (l.getD i κ.dflt) c cs with
      | some y => if c + cs.length ≤ κ.size then .ret (hset h n (.arr true κ (l.set i y))) else .fail
      | none => .fail
    | _, _ => .fail
  | _, _ => .fail

def fieldOff (Γ : Ctx) (t f : Nat) : Option (Nat × Nat) :=
  match Γ.ty t with
  | some ⟨.struct fs, _, _, _, _⟩ => fs[f]?
  | _ => none

def sizeOfA (Γ : Ctx) (t : Nat) : Nat := match Γ.ty t with | some ti => ti.size | none => 0

def fieldAddrA (Γ : Ctx) (h : Heap) (t : Nat) (p : AV) (f : Nat) : T AV :=
  match fieldOff Γ t f, p with
  | some (ft, off), .ptr n i c => if sizeOfA Γ ft = 0 then .fail else match hget h n with
    | some (.vals _ l) => if i + off < l.length then .ret (.ptr n (i + off) c) else .fail
    | some (.arr _ κ _) => if c + off < κ.size then .ret (.ptr n i (c + off)) else .fail
    | _ => .fail
  | _, _ => .fail

def fieldA (Γ : Ctx) (t : Nat) (x : AV) (f : Nat) : T AV :=
  match fieldOff Γ t f, x with
  | some (ft, off), .agg l => match Γ.ty ft with
    | some ti => if ti.isAgg then (if off + ti.size ≤ l.length then .ret (.agg ((l.drop off).take ti.size)) else .fail) else T.opt l[off]?
    | none => .fail
  | _, _ => .fail

def inB (i : Int) (n : Nat) : Bool := decide (0 ≤ i) && decide (i < (n : Int))

def indexAddrA (Γ : Ctx) (h : Heap) (t : Nat) (x ix : AV) : T AV :=
  match Γ.ty t, x, ix with
  | some ⟨.slc e, _, _, _, _⟩, .slc n off len, .int _ i => match hget h n with
    | some (.arr _ κ _) => if sizeOfA Γ e = κ.size then .ifb (inB i len) (.ret (.ptr n (off + i.toNat) 0)) else .fail
    | _ => .fail
  | some ⟨.arr m e, _, _, _, _⟩, .ptr n 0 0, .int _ i => match hget h n with
    | some (.arr _ κ l) => if sizeOfA Γ e = κ.size then .ifb (inB i l.length && decide (l.length = m)) (.ret (.ptr n i.toNat 0)) else .fail
    | _ => .fail
  | _, _, _ => .fail

def indexA0 (Γ : Ctx) (t : Nat) (x ix : AV) : T AV :=
  match Γ.ty t, x, ix with
  | some ⟨.str, _, _, _, _⟩, .str s, .int _ i => .ifb (inB i s.size) (.ret (.int .u8 (sget s i.toNat)))
  | some ⟨.arr m e, _, _, _, _⟩, .arv κ l, .int _ i => match Γ.ty e with
    | some te => if te.size = κ.size then .ifb (inB i l.length && decide (l.length = m)) (if te.isAgg = true then .ret (.agg (κ.cells (l.getD i.toNat κ.dflt))) else if κ.size = 1 then .ret (κ.val (l.getD i.toNat κ.dflt)) else .fail) else .fail
    | none => .fail
  | _, _, _ => .fail

/-- an array's cells, by elements -/
def arvOf (Γ : Ctx) (t : Nat) : AV → AV
  | .agg cs => match Γ.ty t with
    | some ⟨.arr n e, _, _, _, _⟩ => match (Γ.ty e).bind (·.ek) with
      | some κ => match chunks κ n cs with
        | some l => .arv κ l
        | none => .agg cs
      | none => .agg cs
    | _ => .agg cs
  | v => v
def indexA (Γ : Ctx) (t : Nat) (x ix : AV) : T AV := indexA0 Γ t (arvOf Γ t x) ix

def fwide (x : Fl .f32) : Fl .f64 := (fconv .f32 .f64 x).getD (Fl.nan .f64)

def bytesOf (l : List Int) : ByteArray := ⟨(l.map fun n => UInt8.ofNat n.toNat).toArray⟩

def convertA (Γ : Ctx) (h : Heap) (src dst : Nat) (x : AV) : T AV :=
  match Γ.ty src, Γ.ty dst with
  | some ts, some td => match td.d, x with
    | .int k, .int _ n => .ret (.int k (k.wrap n))
    | .flt k, .int _ n => .ret (.flt k (fofInt k n))
    | .int k, .flt _ y => .bnd (ftoInt y k) fun n => .ret (.int k n)
    | .flt .f64, .flt .f32 y => .ret (.flt .f64 (fwide y))
    | .flt .f32, .flt .f32 y => .ret (.flt .f32 y)
    | .flt .f64, .flt .f64 y => .ret (.flt .f64 y)
    | .flt .f32, .flt .f64 y => .bnd (fconv .f64 .f32 y) fun z => .ret (.flt .f32 z)
    | .cpx .f64, .cpx .f32 y z => .ret (.cpx .f64 (fwide y) (fwide z))
    | .cpx .f32, .cpx .f32 y z => .ret (.cpx .f32 y z)
    | .cpx .f64, .cpx .f64 y z => .ret (.cpx .f64 y z)
    | .cpx .f32, .cpx .f64 y z => .bnd (fconv .f64 .f32 y) fun a => .bnd (fconv .f64 .f32 z) fun b => .ret (.cpx .f32 a b)
    | .str, .str s => .ret (.str s)
    | .str, .slc n off len => match ts.d, hget h n with
      | .slc e, some (.arr _ (.int .u8) l) => match Γ.ty e with
        | some ⟨.int .u8, _, _, _, _⟩ => .ret (.str (bytesOf (sub l off len)))
        | _ => .fail
      | _, _ => .fail
    | _, _ => .fail
  | _, _ => .fail

def mergeV (b : Bool) : AV → AV → AV
  | .bs x, .bs y => .bs (bif b then x else y)
  | .bs x, .bl y => .bs (bif b then x else y)
  | .bl x, .bs y => .bs (bif b then x else y)
  | .bl x, .bl y => .bs (bif b then x else y)
  | .int k x, .int k' y => if k' = k then .int k (bif b then x else y) else .top
  | .flt k x, .flt k' y => if e : k' = k then .flt k (bif b then x else e ▸ y) else .top
  | .cpx k x u, .cpx k' y v => if e : k' = k then .cpx k (bif b then x else e ▸ y) (bif b then u else e ▸ v) else .top
  | .str x, .str y => .str (bif b then x else y)
  | _, _ => .top

/-- parts of a literal -/
def fillA (place : Nat → Option (Nat × Nat)) (cells : List AV) : List (Nat × AV) → Option (List AV)
  | [] => some cells
  | (i, v) :: rest => match place i with
    | none => none
    | some (off, size) => match v with
      | .agg l => if l.length = size ∧ off + size ≤ cells.length then fillA place (splice cells off l) rest else none
      | .top | .tup _ | .arv _ _ => none
      | v => if size = 1 ∧ off + 1 ≤ cells.length then fillA place (splice cells off [v]) rest else none

def repl (z : List AV) : Nat → List AV
  | 0 => []
  | n + 1 => z ++ repl z n

def fldPlaces (Γ : Ctx) : List (Nat × Nat) → Option (List (Nat × Nat))
  | [] => some []
  | (t, off) :: r => match Γ.ty t, fldPlaces Γ r with
    | some ti, some l => some ((off, ti.size) :: l)
    | _, _ => none

def buildA (Γ : Ctx) (t : Nat) (parts : List (Nat × AV)) : T AV :=
  match Γ.ty t with
  | some ⟨.struct fs, _, _, z, _⟩ => match fldPlaces Γ fs with
    | some pl => match fillA (pl[·]?) z parts with
      | some l => .ret (.agg l)
      | none => .fail
    | none => .fail
  | some ⟨.arr _ e, _, _, z, _⟩ => match Γ.ty e with
    | some te => match fillA (fun i => some (i * te.size, te.size)) z parts with
      | some l => .ret (.agg l)
      | none => .fail
    | none => .fail
  | _ => .fail

def buildSliceA (Γ : Ctx) (nm t len : Nat) (parts : List (Nat × AV)) : T (AV × Heap) :=
  match Γ.ty t with
  | some ⟨.slc e, _, _, _, _⟩ => match Γ.ty e with
    | some te => match te.ek with
      | some κ => if te.size = κ.size ∧ len * te.size ≤ 1000 then
          match fillA (fun i => some (i * te.size, te.size)) (repl te.zero len) parts with
          | some cs => match chunks κ len cs with
            | some l => .ret (if len = 0 then (.nils (some κ), []) else (.slc nm 0 len, [(nm, .arr true κ l)]))
            | none => .fail
          | none => .fail
        else .fail
      | none => .fail
    | none => .fail
  | _ => .fail

def maxB : Nat := 2 ^ 47

def makeSliceA (Γ : Ctx) (nm t : Nat) (lo co : Operand) (len cap : AV) : T (AV × Heap) :=
  match Γ.ty t, len, cap with
  | some ⟨.slc e, _, _, _, _⟩, .int .i64 n, .int .i64 c => match Γ.ty e with
    | some te => match te.ek with
      | some κ => if te.size = κ.size ∧ te.bytes ≠ 0 then match κ.of te.zero with
          | some z =>
            let same : Bool := match lo, co with | .tmp a, .tmp b => Nat.beq a b | _, _ => false
            if same then .ifb (decide (0 ≤ n) && decide ((te.bytes : Int) * n ≤ maxB)) (.ret (.slc nm 0 n.toNat, [(nm, .arr true κ (List.replicate n.toNat z))]))
            else .ifb (decide (0 ≤ n) && decide (n ≤ c) && decide ((te.bytes : Int) * c ≤ maxB)) (.ret (.slc nm 0 n.toNat, [(nm, .arr true κ (List.replicate c.toNat z))]))
          | none => .fail
        else .fail
      | none => .fail
    | none => .fail
  | _, _, _ => .fail

def isZeroC : Option Operand → Bool
  | some (.const (.int _ n)) => n == 0
  | _ => false

def sliceA (Γ : Ctx) (h : Heap) (t : Nat) (x : AV) (lo hi mx : Option AV) (hio mxo : Option Operand) : T AV :=
  match Γ.ty t, x with
  | some ⟨.str, _, _, _, _⟩, .str s => match lo, hi, mx with
    | none, none, none => .ret (.str (s.extract 0 s.size))
    | some (.int _ l), none, none => .ifb (decide (0 ≤ l) && decide (l ≤ (s.size : Int))) (.ret (.str (s.extract l.toNat s.size)))
    | none, some (.int _ r), none => .ifb (decide (0 ≤ r) && decide (r ≤ (s.size : Int))) (.ret (.str (s.extract 0 r.toNat)))
    | some (.int _ l), some (.int _ r), none => .ifb (decide (0 ≤ r) && decide (r ≤ (s.size : Int)) && (decide (0 ≤ l) && decide (l ≤ r))) (.ret (.str (s.extract l.toNat r.toNat)))
    | _, _, _ => .fail
  | some ⟨.slc e, _, _, _, _⟩, x =>
    let same (n : Nat) (r : T AV) : T AV := match hget h n with
      | some (.arr _ κ _) => if sizeOfA Γ e = κ.size then r else .fail
      | _ => .fail
    if lo.isNone && isZeroC hio && isZeroC mxo then (if sizeOfA Γ e ≠ 0 then (match x with | .slc _ _ _ => .ret (.nils none) | .nils k => .ret (.nils k) | _ => .fail) else .fail) else
    match x, lo, hi, mx with
    | .slc n off len, none, none, none => if sizeOfA Γ e ≠ 0 then .ret (.slc n off len) else .fail
    | .slc n off len, some (.int _ l), none, none => same n (.ifb (decide (0 ≤ l) && decide (l ≤ (len : Int))) (.ret (.slc n (off + l.toNat) (len - l.toNat))))
    | .slc n off len, none, some (.int _ r), none => same n (.ifb (decide (0 ≤ r) && decide (r ≤ (len : Int))) (.ret (.slc n off r.toNat)))
    | .slc n off len, some (.int _ l), some (.int _ r), none => same n (.ifb (decide (0 ≤ r) && decide (r ≤ (len : Int)) && (decide (0 ≤ l) && decide (l ≤ r))) (.ret (.slc n (off + l.toNat) (r.toNat - l.toNat))))
    | _, _, _, _ => .fail
  | _, _ => .fail

def maxN (b : Bool) (x y : Int) : Int := if b then (if y > x then y else x) else (if y < x then y else x)

def foldMM (b : Bool) (k : IntKind) : Int → List AV → Option Int
  | x, [] => some x
  | x, .int k' y :: r => if k' = k then foldMM b k (maxN b x y) r else none
  | _, _ => none

def maxA : Nat := 2 ^ 36

def TyI.notInt (t : TyI) : Bool := match t.d with | .int _ => false | _ => true

/-- what is appended -/
def newOf (κ : EK) (h : Heap) (x : AV) : Option (List κ.den) := match x with
  | .nils _ => some []
  | .slc m off len => match hget h m with
    | some (.arr _ κ' l) => if e : κ' = κ then some (e ▸ sub l off len) else none
    | _ => none
  | _ => none

/-- 'append(nil, x...)': a new block alone. -/
def appendN (Γ : Ctx) (h : Heap) (nm : Nat) (ts : List Nat) (x : AV) : T (AV × Heap) :=
  match ts with
  | st :: xt :: _ => match Γ.ty st with
    | some ⟨.slc e, _, _, _, _⟩ => match Γ.ty e, Γ.ty xt with
      | some te, some tx => match te.ek with
        | some κ => if te.size = κ.size ∧ 0 < te.size ∧ te.bytes ≤ 64 ∧ tx.notInt = true then
            match newOf κ h x with
            | none => .fail
            | some new => .ifb (decide (new.length ≤ maxA)) (.ret (.slc nm 0 new.length, [(nm, .arr true κ new)]))
          else .fail
        | none => .fail
      | _, _ => .fail
    | _ => .fail
  | _ => .fail

/-- 'append(s, x...)': the old block is gone. -/
def appendA (Γ : Ctx) (h : Heap) (nm : Nat) (ts : List Nat) (s x : AV) : T (AV × Heap) :=
  match ts with
  | st :: xt :: _ => match Γ.ty st with
    | some ⟨.slc e, _, _, _, _⟩ => match Γ.ty e, Γ.ty xt with
      | some te, some tx => match te.ek with
        | some κ => if te.size = κ.size ∧ 0 < te.size ∧ te.bytes ≤ 64 ∧ tx.notInt = true then
            bif !(hget h nm).isNone then .fail else
            match newOf κ h x with
            | none => .fail
            | some new => match s with
              | .slc n off len => match hget h n with
                | some (.arr true κ' l) => if e : κ' = κ then
                    .ifb (decide (len + new.length ≤ maxA)) (.ret (.slc nm 0 (sub (e ▸ l) off len ++ new).length, hset h n .dead ++ [(nm, .arr true κ (sub (e ▸ l) off len ++ new))]))
                  else .fail
                | _ => .fail
              | _ => .fail
          else .fail
        | none => .fail
      | _, _ => .fail
    | _ => .fail
  | _ => .fail

def builtinA (Γ : Ctx) (b : Builtin) (ts : List Nat) (args : List AV) : T AV :=
  match b, args with
  | .len, [.str s] => match ts with
    | t :: _ => match Γ.ty t with | some ⟨.str, _, _, _, _⟩ => .ret (.int .i64 s.size) | _ => .fail
    | _ => .fail
  | .len, [.slc _ _ len] => match ts with
    | t :: _ => match Γ.ty t with | some ⟨.slc _, _, _, _, _⟩ => .ret (.int .i64 len) | _ => .fail
    | _ => .fail
  | .len, [.nils _] => match ts with
    | t :: _ => match Γ.ty t with | some ⟨.slc _, _, _, _, _⟩ => .ret (.int .i64 (0 : Nat)) | _ => .fail
    | _ => .fail
  | .complex, [.flt k x, .flt k' y] => if e : k' = k then .ret (.cpx k x (e ▸ y)) else .fail
  | .real, [.cpx k x _] => .ret (.flt k x)
  | .imag, [.cpx k _ y] => .ret (.flt k y)
  | .max, .int k x :: r => match foldMM true k x r with | some n => .ret (.int k n) | none => .fail
  | .min, .int k x :: r => match foldMM false k x r with | some n => .ret (.int k n) | none => .fail
  | _, _ => .fail

def fresh (h : Heap) : Heap → Bool
  | [] => true
  | (n, _) :: r => (hget h n).isNone && (hget r n).isNone && fresh h r

def useSpec (s : FSpec) (args : List AV) (h : Heap) (nm : Nat) : T (AV × Heap) :=
  match DS.reads h s.args args with
  | none => .fail
  | some x => .bnd (s.F x) fun r =>
    let out := DS.layTup (nm * 1024 + 1000) s.res r 0
    .ret (match out.1 with | [v] => v | vs => .tup vs, out.2.1)

/-- what a call's target is -/
def callee (args : List AV) : AV → Option (Nat × List AV)
  | .fn (.func f) first cap => some (f, (first ++ args) ++ cap)
  | _ => none

abbrev CallF := Nat → List AV → Heap → Nat → T (AV × Heap)

def opName (nm : Nat) (o : Oper) : Nat := (nm * 1024 + o.dst.getD 1022 + 1)

/-- nil slices of a known type -/
def nilsOf (Γ : Ctx) (t : Nat) (nm : Nat) : AV → AV × Heap
  | .nils none => match Γ.ty t with
    | some ⟨.slc e, _, _, _, _⟩ => match (Γ.ty e).bind (·.ek) with
      | some κ => (.slc nm 0 0, [(nm, .arr true κ [])])
      | none => (.nils none, [])
    | _ => (.nils none, [])
  | .nils (some κ) => (.slc nm 0 0, [(nm, .arr true κ [])])
  | v => (v, [])

/-- a name that is not taken yet, near 'nm' -/
def freeName (h : Heap) (nm : Nat) : Nat := match hget h nm with
  | none => nm
  | some _ => match hget h (nm + 2 ^ 80) with
    | none => nm + 2 ^ 80
    | some _ => nm + 2 ^ 81

/-- nil slices in a struct that is built -/
def phantAgg (nm : Nat) : AV → AV × Heap
  | .agg l => let (l', h) := phant (nm * 1024 + 900) 0 l; (.agg l', h)
  | v => (v, [])

def pure1 (t : T AV) : T (AV × Heap) := t.bind fun w => .ret (w, [])

/-- One operation that turns no memory that was there: its value, and new blocks. -/
def evOpA (Γ : Ctx) (tm : List AV) (h : Heap) (nm : Nat) (o : Oper) : T (AV × Heap) :=
  let v := opv tm
  let nm := opName nm o
  match o.op with
  | .move x | .assign x => .ret (nilsOf Γ o.type (freeName h nm) (v x))
  | .pick c a b => match v c with
    | .bl true => .ret (v a, [])
    | .bl false => .ret (v b, [])
    | .bs d => .ret (mergeV d (v a) (v b), [])
    | _ => .fail
  | .alloc t => match Γ.ty t with
    | some ti => newVarA Γ nm ti (if ti.isAgg then .agg ti.zero else match ti.zero with | [z] => if cellB z then z else .top | _ => .top)
    | none => .fail
  | .box t x => match Γ.ty t with
    | some ti => newVarA Γ nm ti (v x)
    | none => .fail
  | .build t ps => (buildA Γ t (ps.toList.map fun p => (p.1, v p.2))).bind fun w => .ret (phantAgg nm w)
  | .buildSlice t n ps => buildSliceA Γ nm t n (ps.toList.map fun p => (p.1, v p.2))
  | .load t a => pure1 (loadA Γ h t (v a))
  | .nilCheck x => match v x with
    | .ptr n i c => .ret (.ptr n i c, [])
    | .fn (.func f) a b => .ret (.fn (.func f) a b, [])
    | _ => .fail
  | .binOp op t x y _ => pure1 ((nilCmp Γ op t (v x) y).getD (binOpA Γ op t (v x) (v y) y))
  | .unOp op _ x => pure1 (unOpA op (v x))
  | .convert s d x => pure1 (convertA Γ h s d (v x))
  | .makeFunc f a b => .ret (.fn f (a.toList.map v) (b.toList.map v), [])
  | .makeSlice t l c => makeSliceA Γ nm t l c (v l) (v c)
  | .slice t x lo hi mx => pure1 (sliceA Γ h t (v x) (lo.map v) (hi.map v) (mx.map v) hi mx)
  | .fieldAddr t x f => pure1 (fieldAddrA Γ h t (v x) f)
  | .field t x f => pure1 (fieldA Γ t (v x) f)
  | .indexAddr t x i => pure1 (indexAddrA Γ h t (v x) (v i))
  | .index t x i => pure1 (indexA Γ t (v x) (v i))
  | .extract t i => match v t with
    | .tup l => pure1 (T.opt l[i]?)
    | _ => .fail
  | .call c => match c.callee with
    | .builtin .append => match c.args.toList.map v with
      | [.nils _, x] => appendN Γ h nm c.argTypes.toList x
      | _ => .fail
    | .builtin b => pure1 (builtinA Γ b c.argTypes.toList (c.args.toList.map v))
    | .value f => match callee (c.args.toList.map v) (v f) with
      | some (g, as) => match Γ.spec g with
        | some s => useSpec s as h nm
        | none => .fail
      | none => .fail
    | _ => .fail
  | _ => .fail

/-- new blocks, if their names are new -/
def addNew (h : Heap) (x : AV × Heap) : T (AV × Heap) :=
  match x.2 with
  | [] => .ret (x.1, h)
  | d => bif fresh h d then .ret (x.1, h ++ d) else .fail

/-- the operations that are not of that kind -/
inductive Kind where
  | add | store | append | inl

def kindOf (Γ : Ctx) (tm : List AV) (o : Oper) : Kind :=
  match o.op with
  | .store .. => .store
  | .call c => match c.callee with
    | .builtin .append => match c.args.toList.map (opv tm) with
      | [.nils _, _] => .add
      | _ => .append
    | .value f => match callee (c.args.toList.map (opv tm)) (opv tm f) with
      | some (g, _) => match Γ.spec g with
        | some _ => .add
        | none => .inl
      | none => .add
    | _ => .add
  | _ => .add

/-- One operation: its value and the heap behind it. -/
def evOp (Γ : Ctx) (call : CallF) (tm : List AV) (h : Heap) (nm : Nat) (o : Oper) : T (AV × Heap) :=
  match kindOf Γ tm o with
  | .add => (evOpA Γ tm h nm o).bind (addNew h)
  | .store => match o.op with
    | .store t a x => (addNew h (nilsOf Γ t (freeName h (opName nm o)) (opv tm x))).bind fun r => (storeA Γ r.2 t (opv tm a) r.1).bind fun h' => .ret (.tup [], h')
    | _ => .fail
  | .append => match o.op with
    | .call c => match c.args.toList with
      | [s, x] => appendA Γ h (opName nm o) c.argTypes.toList (opv tm s) (opv tm x)
      | _ => .fail
    | _ => .fail
  | .inl => match o.op with
    | .call c => match c.callee with
      | .value f => match callee (c.args.toList.map (opv tm)) (opv tm f) with
        | some (g, as) => call g as h (opName nm o)
        | none => .fail
      | _ => .fail
    | _ => .fail

def setD (tm : List AV) (d : Option Nat) (v : AV) : List AV := match d with | some d => tm.set d v | none => tm

/-- the slot of operation j's value -/
def slotOf (ops : List Oper) (j : Nat) : Option Nat := (ops[j]?).bind (·.dst)

def evOps (Γ : Ctx) (call : CallF) (nm : Nat) (all : List Oper) : List Oper → St → T St
  | [], s => .ret s
  | o :: rest, s =>
    let run (tm : List AV) : T St := (evOp Γ call tm s.hp nm o).bind fun r => evOps Γ call nm all rest ⟨setD tm o.dst r.1, r.2⟩
    let skip (tm : List AV) : T St := evOps Γ call nm all rest ⟨setD tm o.dst (.tup []), s.hp⟩
    match o.guard with
    | none => run s.tm
    | some (j, want) => match slotOf all j with
      | none => .fail
      | some d => match s.tm.getD d .top with
        | .bl b => bif b == want then run s.tm else skip s.tm
        | .bs b => .node b (bif want then run (s.tm.set d (.bl true)) else skip (s.tm.set d (.bl true)))
            (bif want then skip (s.tm.set d (.bl false)) else run (s.tm.set d (.bl false)))
        | .tup [] => skip s.tm
        | _ => .fail

/-! ### Regions whose order is open -/
/-- the operations that must come ahead of each one, as bits -/
def befores (ops : List Oper) : List Nat :=
  ops.foldl (init := []) fun acc o =>
    acc ++ [o.after.toList.foldl (fun s e => bif Region.binds .any e then s ||| 2 ^ e.on ||| acc.getD e.on 0 else s) 0]

/-- from here on each operation waits for all ahead of it -/
def tailFrom (bs : List Nat) : (n : Nat) → Nat
  | 0 => 0
  | n + 1 => bif Nat.beq (bs.getD n 0) (2 ^ n - 1) then tailFrom bs n else n + 1

def looksT (all : List Oper) (o : Oper) : List Nat :=
  (o.op.operands.toList.filterMap fun | .tmp t => some t | _ => none) ++ (match o.guard with | some (g, _) => (slotOf all g).toList | none => [])

/-- what an operation looks at has been written by those ahead of it, or by none of the region's -/
def drawOk (all : List Oper) (bs : List Nat) (p : Nat) : Bool :=
  nodupN ((all.take p).filterMap (·.dst)) &&
  (List.range p).all fun j => match all[j]? with
    | none => false
    | some o => (looksT all o).all fun t => (List.range p).all fun i => match slotOf all i with
      | some d => !Nat.beq d t || (bs.getD j 0).testBit i
      | none => true
where
  nodupN : List Nat → Bool
    | [] => true
    | x :: r => !r.any (Nat.beq x) && nodupN r

def pickD (b : Nat) : (j : Nat) → List Heap → Heap
  | _, [] => []
  | j, d :: r => bif b.testBit j then d ++ pickD b (j + 1) r else pickD b (j + 1) r

def joinD : List Heap → Heap
  | [] => []
  | d :: r => d ++ joinD r

/-- a heap without a block -/
def hdel (n : Nat) : Heap → Heap
  | [] => []
  | (m, b) :: r => bif Nat.beq m n then hdel n r else (m, b) :: hdel n r

/-- a region may have one operation that turns memory ('σ', and the block that it turns): whatever may come on either side of it does not look at that block -/
def isM (m : Option (Nat × Nat)) (j : Nat) : Bool := match m with | some (σ, _) => Nat.beq j σ | none => false
def delH (m : Option (Nat × Nat)) (h : Heap) : Heap := match m with | some (_, n) => hdel n h | none => h
def opH (m : Option (Nat × Nat)) (bs : List Nat) (h : Heap) (j : Nat) : Heap := match m with
  | some (σ, n) => bif Nat.beq j σ || (bs.getD σ 0).testBit j then h else hdel n h
  | none => h

/-- An operation that turns block n alone: its value, the block then, and new blocks. -/
def evMod (Γ : Ctx) (tm : List AV) (h : Heap) (nm : Nat) (o : Oper) (n : Nat) : T (AV × Heap) :=
  match o.op with
  | .store t a x => match opv tm a with
    | .ptr m i c => bif Nat.beq m n then (storeA Γ h t (.ptr m i c) (opv tm x)).bind fun h' => match hget h' n with
        | some b => .ret (.tup [], [(n, b)])
        | none => .fail
      else .fail
    | _ => .fail
  | .call c => match c.callee with
    | .builtin .append => match c.args.toList with
      | [s, x] => match opv tm s with
        | .slc m off len => bif Nat.beq m n then (appendA Γ h (opName nm o) c.argTypes.toList (.slc m off len) (opv tm x)).bind fun r => match hget r.2 (opName nm o) with
            | some b => .ret (r.1, [(n, .dead), (opName nm o, b)])
            | none => .fail
          else .fail
        | _ => .fail
      | _ => .fail
    | _ => .fail
  | _ => .fail

/-- a guess at the block that an operand will tell of -/
def guessN (ops : List Oper) (tm : List AV) (h : Heap) : Operand → Option Nat
  | .tmp t =>
    let nameOf : AV → Option Nat := fun | .ptr n _ _ => some n | .slc n _ _ => some n | _ => none
    match ops.find? (fun o => match o.dst with | some d => Nat.beq d t | none => false) with
    | none => nameOf (tm.getD t .top)
    | some o => match o.op with
      | .load _ (.tmp a) => match tm.getD a .top with
        | .ptr m i _ => match hget h m with
          | some (.vals _ l) => nameOf (l.getD i .top)
          | _ => none
        | _ => none
      | .move (.tmp a) => nameOf (tm.getD a .top)
      | _ => none
  | _ => none
def guessM (ops : List Oper) (tm : List AV) (h : Heap) : List Oper → Nat → Option (Nat × Nat)
  | [], _ => none
  | o :: r, j => match o.op with
    | .store _ a _ => (guessN ops tm h a).map fun n => (j, n)
    | .call c => match c.callee with
      | .builtin .append => match c.args.toList with
        | s :: _ => match guessN ops tm h s with
          | some n => some (j, n)
          | none => guessM ops tm h r (j + 1)
        | [] => none
      | _ => guessM ops tm h r (j + 1)
    | _ => guessM ops tm h r (j + 1)

def drawRun (Γ : Ctx) (nm : Nat) (bs : List Nat) (m : Option (Nat × Nat)) (h : Heap) (o : Oper) (j : Nat) (ds : List Heap) (tm : List AV) (k : List AV → List Heap → T (List AV × List Heap)) : T (List AV × List Heap) :=
  bif isM m j then match m with
    | some (_, n) => (evMod Γ tm (h ++ pickD (bs.getD j 0) 0 ds) nm o n).bind fun r =>
        bif fresh (delH m h ++ joinD ds) r.2 then k (setD tm o.dst r.1) (ds ++ [r.2]) else .fail
    | none => .fail
  else match kindOf Γ tm o with
  | .add => (evOpA Γ tm (opH m bs h j ++ pickD (bs.getD j 0) 0 ds) nm o).bind fun r =>
      bif fresh (delH m h ++ joinD ds) r.2 then k (setD tm o.dst r.1) (ds ++ [r.2]) else .fail
  | _ => .fail

/-- the operations that may come in any order -/
def evDraw (Γ : Ctx) (nm : Nat) (all : List Oper) (bs : List Nat) (m : Option (Nat × Nat)) (h : Heap) : List Oper → (j : Nat) → List AV → List Heap → T (List AV × List Heap)
  | [], _, tm, ds => .ret (tm, ds)
  | o :: rest, j, tm, ds =>
    let run (tm : List AV) : T (List AV × List Heap) := drawRun Γ nm bs m h o j ds tm fun tm ds => evDraw Γ nm all bs m h rest (j + 1) tm ds
    let skip (tm : List AV) : T (List AV × List Heap) := bif isM m j then .fail else evDraw Γ nm all bs m h rest (j + 1) (setD tm o.dst (.tup [])) (ds ++ [[]])
    match o.guard with
    | none => run tm
    | some (g, want) => match slotOf all g with
      | none => .fail
      | some d => match tm.getD d .top with
        | .bl b => bif b == want then run tm else skip tm
        | .bs b => .node b (bif want then run (tm.set d (.bl true)) else skip (tm.set d (.bl true)))
            (bif want then skip (tm.set d (.bl false)) else run (tm.set d (.bl false)))
        | .tup [] => skip tm
        | _ => .fail

def evRegion (Γ : Ctx) (call : CallF) (nm : Nat) (ops : List Oper) (draw : Bool) (s : St) : T St :=
  bif draw then
    let bs := befores ops
    let p := tailFrom bs ops.length
    let m := (guessM (ops.take p) s.tm s.hp (ops.take p) 0).filter fun q => Nat.blt q.1 p
    bif drawOk ops bs p then
      (evDraw Γ nm ops bs m s.hp (ops.take p) 0 s.tm []).bind fun r => evOps Γ call nm ops (ops.drop p) ⟨r.1, delH m s.hp ++ joinD r.2⟩
    else .fail
  else evOps Γ call nm ops ops s

end Go.Ab

/-
  The evaluator: code, loops, calls. Definitions alone.
-/
namespace Go.Ab

/-! ### Names put in order -/
mutual
def AV.names : AV → List Nat
  | .ptr n _ _ => [n]
  | .slc n _ _ => [n]
  | .fn _ a b => AV.namesL a ++ AV.namesL b
  | .agg l => AV.namesL l
  | .tup l => AV.namesL l
  | _ => []
def AV.namesL : List AV → List Nat
  | [] => []
  | v :: r => v.names ++ AV.namesL r
end

mutual
def AV.ren (ρ : Nat → Nat) : AV → AV
  | .ptr n i c => .ptr (ρ n) i c
  | .slc n o l => .slc (ρ n) o l
  | .fn f a b => .fn f (AV.renL ρ a) (AV.renL ρ b)
  | .agg l => .agg (AV.renL ρ l)
  | .tup l => .tup (AV.renL ρ l)
  | .bl b => .bs b
  | v => v
def AV.renL (ρ : Nat → Nat) : List AV → List AV
  | [] => []
  | v :: r => v.ren ρ :: AV.renL ρ r
end

def Blk.ren (ρ : Nat → Nat) : Blk → Blk
  | .vals o l => .vals o (AV.renL ρ l)
  | b => b

def reach (h : Heap) : (fuel : Nat) → List Nat → List Nat → List Nat
  | 0, _, seen => seen
  | _ + 1, [], seen => seen
  | n + 1, x :: w, seen => bif seen.any (Nat.beq x) then reach h n w seen else
    match hget h x with
    | some (.vals _ l) => reach h n (w ++ AV.namesL l) (seen ++ [x])
    | some _ => reach h n w (seen ++ [x])
    | none => reach h n w seen

def posOf (x : Nat) : List Nat → Nat → Nat
  | [], j => j
  | y :: r, j => bif Nat.beq x y then j else posOf x r (j + 1)

/-- Keep some slots; name what they reach anew, but for the names 'pre'. -/
def normTm (keep : List Nat) (s : St) : List AV := s.tm.mapIdx fun i v => bif keep.any (Nat.beq i) then v else AV.top
def normAll (pre keep : List Nat) (s : St) : List Nat := reach s.hp 200 (AV.namesL (normTm keep s)) pre
def normOwn (pre all : List Nat) : List Nat := all.filter fun x => !pre.any (Nat.beq x)
def normRen (pre own : List Nat) (lb : Nat) (x : Nat) : Nat := bif pre.any (Nat.beq x) then x else lb + posOf x own 0
def inN (l : List Nat) (x : Nat) : Bool := l.any (Nat.beq x)

def normOk (pre : List Nat) (lb : Nat) (keep all own : List Nat) (s : St) : Bool :=
  (pre.all fun x => Nat.blt x lb || Nat.ble (lb + own.length) x) &&
  (AV.namesL (normTm keep s)).all (inN all) &&
  (all.all fun x => match hget s.hp x with | some (.vals _ l) => (AV.namesL l).all (inN all) | _ => true) &&
  pre.all (inN all)

def normTo (pre : List Nat) (lb : Nat) (keep all own : List Nat) (s : St) : St :=
  ⟨AV.renL (normRen pre own lb) (normTm keep s), all.filterMap fun x => (hget s.hp x).map fun b => (normRen pre own lb x, b.ren (normRen pre own lb))⟩

def normO (pre : List Nat) (lb : Nat) (keep : List Nat) (s : St) : Option St :=
  let all := normAll pre keep s
  let own := normOwn pre all
  bif normOk pre lb keep all own s then some (normTo pre lb keep all own s) else none

def normSt (pre : List Nat) (lb : Nat) (keep : List Nat) (s : St) : St :=
  let all := normAll pre keep s
  normTo pre lb keep all (normOwn pre all) s

/-- the first region of a loop's body: its name -/
def keyOf : Code → Option Nat
  | .region id _ _ => some id
  | .seq a b => (keyOf a).orElse fun _ => keyOf b
  | .block _ b | .scope b | .loop b => keyOf b
  | .cond _ a b => (keyOf a).orElse fun _ => keyOf b
  | _ => none

def iter {α ρ : Type} (B : α → Option (α ⊕ ρ)) : Nat → α → Option ρ
  | 0, _ => none
  | n + 1, x => (B x).bind fun
    | .inl y => iter B n y
    | .inr r => some r

def exGet (pre : List Nat) (lb : Nat) : (l : List LExit) → Ex → St → Option (ExDen l)
  | [], _, _ => none
  | [e], x, s => if x = e.ex then (normO pre lb e.keep s).bind e.sh.get else none
  | e :: f :: r, x, s => match (if x = e.ex then (normO pre lb e.keep s).bind e.sh.get else none) with
    | some y => some (.inl y)
    | none => (exGet pre lb (f :: r) x s).map .inr

def roundT (pre : List Nat) (lb : Nat) (L : LSpec) (body : St → T (Ex × St)) (x : L.sh.den) : T (L.sh.den ⊕ ExDen L.exits) :=
  (body (L.sh.fill x)).bind fun (e, s) => match e with
    | .nrm => match (normO pre lb L.keep s).bind L.sh.get with
      | some y => .ret (.inl y)
      | none => .miss (normSt pre lb L.keep s)
    | e => match exGet pre lb L.exits e s with
      | some r => .ret (.inr r)
      | none => .miss (e, s)

def loopBase (nm key : Nat) : Nat := (nm * 1024 + 1023) * 1048576 + key * 64

/-- what is said of a loop: the first of three tellings that fits -/
def pickL (Γ : Ctx) (fn key nm : Nat) (pre : List Nat) (lb : Nat) (s : St) : Option LSpec :=
  match Γ.loop fn key nm with
  | none => none
  | some L => match (normO pre lb L.keep s).bind L.sh.get with
    | some _ => some L
    | none => match Γ.loop fn key (nm + 2 ^ 90) with
      | none => some L
      | some L' => match (normO pre lb L'.keep s).bind L'.sh.get with
        | some _ => some L'
        | none => match Γ.loop fn key (nm + 2 ^ 91) with
          | none => some L'
          | some L'' => some L''

def evCode (Γ : Ctx) (call : CallF) (fn nm : Nat) (pre : List Nat) : Code → St → T (Ex × St)
  | .skip, s => .ret (.nrm, s)
  | .label _, s => .ret (.nrm, s)
  | .region _ ops draw, s => (evRegion Γ call nm ops.toList draw s).bind fun s => .ret (.nrm, s)
  | .seq a b, s => (evCode Γ call fn nm pre a s).bind fun (e, s) => match e with
    | .nrm => evCode Γ call fn nm pre b s
    | e => .ret (e, s)
  | .cond c a b, s => match opv s.tm c with
    | .bl true => evCode Γ call fn nm pre a s
    | .bl false => evCode Γ call fn nm pre b s
    | .bs x => .node x (evCode Γ call fn nm pre a s) (evCode Γ call fn nm pre b s)
    | _ => .fail
  | .block id b, s => (evCode Γ call fn nm pre b s).bind fun (e, s) => match e with
    | .ext i => .ret (bif Nat.beq i id then .nrm else .ext i, s)
    | e => .ret (e, s)
  | .loop b, s => match keyOf b with
    | none => .fail
    | some key => match pickL Γ fn key nm pre (loopBase nm key) s with
      | none => .miss (fn, key, nm, pre, loopBase nm key, s)
      | some L => match (normO pre (loopBase nm key) L.keep s).bind L.sh.get with
        | none => .miss (fn, key, nm, normSt pre (loopBase nm key) L.keep s)
        | some x => .bnd (iter (fun y => (roundT pre (loopBase nm key) L (evCode Γ call fn nm pre b) y).den) (L.fuel x) x) fun r => exOut L.exits r
  | .exit id, s => .ret (.ext id, s)
  | .ret, s => .ret (.ret, s)
  | _, _ => .fail

/-- A function's results. -/
def resA (Γ : Ctx) (tm : List AV) (h : Heap) : List ResultVar → T (List AV)
  | [] => .ret []
  | .tmp t :: r => (resA Γ tm h r).bind fun l => .ret (tm.getD t .top :: l)
  | .cell a t :: r => (loadA Γ h t (tm.getD a .top)).bind fun v => (resA Γ tm h r).bind fun l => .ret (v :: l)

def evBody (Γ : Ctx) (call : CallF) (f : Nat) (args : List AV) (h : Heap) (nm : Nat) : T (AV × Heap) :=
  match Γ.fns f with
  | none => .fail
  | some fn => match fn.body with
    | none => .fail
    | some c => (evCode Γ call f nm (h.map (·.1)) c ⟨args ++ List.replicate (fn.ntmps - args.length) .top, h⟩).bind fun (e, s) => match e with
      | .ext _ => .fail
      | _ => (resA Γ s.tm s.hp fn.results.toList).bind fun l => .ret (match l with | [v] => v | vs => .tup vs, s.hp)

def evCall (Γ : Ctx) : (depth : Nat) → CallF
  | 0 => fun _ _ _ _ => .fail
  | d + 1 => fun f args h nm => match Γ.spec f with
    | some s => (useSpec s args h nm).bind (addNew h)
    | none => evBody Γ (evCall Γ d) f args h nm

/-! ### A function as a plain function of data -/
def DS.arg (nm : Nat) : (d : DS) → d.den → Nat → AV × Heap × Nat
  | .bool, b, j => (.bs b, [], j)
  | .int k, n, j => (.int k n, [], j)
  | .flt k, x, j => (.flt k x, [], j)
  | .cpx k, x, j => (.cpx k x.1 x.2, [], j)
  | .str, s, j => (.str s, [], j)
  | .list κ, l, j => (.slc (nm + j) 0 l.length, [(nm + j, .arr false κ l)], j + 1)
  | _, _, j => (.top, [], j)

def DS.argCells (nm : Nat) : (d : List DS) → DS.dens d → Nat → List AV × Heap × Nat
  | [], _, j => ([], [], j)
  | [d], x, j => let (v, h, j') := d.arg nm x j; ([v], h, j')
  | d :: e :: r, x, j =>
    let (v, h, j') := d.arg nm x.1 j
    let (vs, h', j'') := DS.argCells nm (e :: r) x.2 j'
    (v :: vs, h ++ h', j'')

def DS.argTop (nm : Nat) : (d : DS) → d.den → Nat → AV × Heap × Nat
  | .agg l, x, j => let (vs, h, j') := DS.argCells nm l x j; (.agg vs, h, j')
  | .ptr (.agg l), x, j => let (vs, h, j') := DS.argCells nm l x (j + 1); (.ptr (nm + j) 0 0, (nm + j, .vals false vs) :: h, j')
  | .bool, b, j => DS.arg nm .bool b j
  | .int k, n, j => DS.arg nm (.int k) n j
  | .flt k, x, j => DS.arg nm (.flt k) x j
  | .cpx k, x, j => DS.arg nm (.cpx k) x j
  | .str, s, j => DS.arg nm .str s j
  | .list κ, l, j => DS.arg nm (.list κ) l j
  | _, _, j => (.top, [], j)

def DS.argAll (nm : Nat) : (d : List DS) → DS.dens d → Nat → List AV × Heap × Nat
  | [], _, j => ([], [], j)
  | [d], x, j => let (v, h, j') := d.argTop nm x j; ([v], h, j')
  | d :: e :: r, x, j =>
    let (v, h, j') := d.argTop nm x.1 j
    let (vs, h', j'') := DS.argAll nm (e :: r) x.2 j'
    (v :: vs, h ++ h', j'')

/-- the names of a result's slices; none where one is not the function's own -/
def ownOf (h : Heap) : List AV → Option (List Nat)
  | [] => some []
  | .slc n _ _ :: r => match hget h n with
    | some (.arr true _ _) => (ownOf h r).map (n :: ·)
    | _ => none
  | .top :: _ => none
  | .ptr _ _ _ :: _ => none
  | .fn _ _ _ :: _ => none
  | .agg _ :: _ => none
  | .tup _ :: _ => none
  | .arv _ _ :: _ => none
  | _ :: r => ownOf h r

def flatRes : List AV → List AV
  | [] => []
  | .agg l :: r => l ++ flatRes r
  | v :: r => v :: flatRes r

def nodupB : List Nat → Bool
  | [] => true
  | x :: r => !r.any (Nat.beq x) && nodupB r

def resOut (res : List DS) (r : AV × Heap) : T (DS.dens res) :=
  let vs := match res, r.1 with | [_], v => [v] | _, .tup l => l | _, v => [v]
  match ownOf r.2 (flatRes vs) with
  | some ns => bif nodupB ns then T.opt (DS.reads r.2 res vs) else .fail
  | none => .fail

/-- What function f does, as a tree. -/
def fnT (Γ : Ctx) (d f : Nat) (args res : List DS) (x : DS.dens args) : T (DS.dens res) :=
  let a := DS.argAll 2 args x 0
  (evBody Γ (evCall Γ d) f a.1 a.2.1 1).bind (resOut res)

def fnF (Γ : Ctx) (d f : Nat) (args res : List DS) : FSpec := ⟨args, res, fun x => (fnT Γ d f args res x).den⟩

end Go.Ab

/-
  How abstract values and heaps stand to the machine's values and memory.
-/
namespace Go.Ab
open Go.RowKit

/-- Where a named block lies: cells from 'off' on in the machine's block 'blk', which has 'size' cells; 'len' elements of 'es' cells. -/
structure Loc where
  blk : Nat
  off : Nat
  size : Nat
  len : Nat
  es : Nat
  own : Bool

abbrev Bt := Nat → Option Loc

def Bt.le (β β' : Bt) : Prop := ∀ n l, β n = some l → β' n = some l
theorem Bt.le_refl (β : Bt) : β.le β := fun _ _ h => h
theorem Bt.le.trans {a b c : Bt} (h : a.le b) (k : b.le c) : a.le c := fun n l e => k n l (h n l e)

def SlcOk (l : Loc) (off len : Nat) (a : Option Addr) (cap : Nat) : Prop :=
  off + len ≤ l.len ∧ ((len = 0 ∧ (l.own = true → cap = 0)) ∨ (a = some ⟨l.blk, l.off + off * l.es, none⟩ ∧ len ≤ cap ∧ (l.own = true → l.off + (off + cap) * l.es ≤ l.size)))

mutual
inductive VRep (β : Bt) : AV → Value → Prop
  | top (v : Value) : VRep β .top v
  | bl (b : Bool) : VRep β (.bl b) (.bool b)
  | bs (b : Bool) : VRep β (.bs b) (.bool b)
  | int (k : IntKind) (n : Int) : VRep β (.int k n) (.int k n)
  | flt (k : FloatKind) (x : Fl k) (b : Nat) : x.Is b → VRep β (.flt k x) (.float k b)
  | cpx (k : FloatKind) (x y : Fl k) (a b : Nat) : x.Is a → y.Is b → VRep β (.cpx k x y) (.complex k a b)
  | str (s : ByteArray) : VRep β (.str s) (.string s)
  | nilp : VRep β .nilp (.pointer none)
  | ptr (n i c : Nat) (l : Loc) : β n = some l → i < l.len → c < l.es → VRep β (.ptr n i c) (.pointer (some ⟨l.blk, l.off + (i * l.es + c), none⟩))
  | slc (n off len : Nat) (l : Loc) (a : Option Addr) (cap : Nat) : β n = some l → SlcOk l off len a cap → VRep β (.slc n off len) (.slice a len cap)
  | nils (κ : Option EK) (a : Option Addr) : VRep β (.nils κ) (.slice a 0 0)
  | fn (f : Fn) (a b : List AV) (a' b' : Array Value) : VReps β a a'.toList → VReps β b b'.toList → VRep β (.fn f a b) (.func f a' b')
  | agg (l : List AV) (cs : Array Value) : VReps β l cs.toList → VRep β (.agg l) (.agg cs)
  | arv (κ : EK) (l : List κ.den) (cs : Array Value) : VReps β (l.flatMap κ.cells) cs.toList → VRep β (.arv κ l) (.agg cs)
  | tup (l : List AV) (cs : Array Value) : VReps β l cs.toList → VRep β (.tup l) (.tuple cs)
inductive VReps (β : Bt) : List AV → List Value → Prop
  | nil : VReps β [] []
  | cons (v : AV) (u : Value) (r : List AV) (s : List Value) : VRep β v u → VReps β r s → VReps β (v :: r) (u :: s)
end

mutual
theorem VRep.mono {β β' : Bt} (hb : β.le β') : ∀ {v : AV} {u : Value}, VRep β v u → VRep β' v u
  | _, _, .top v => .top v
  | _, _, .bl b => .bl b
  | _, _, .bs b => .bs b
  | _, _, .int k n => .int k n
  | _, _, .flt k x b h => .flt k x b h
  | _, _, .cpx k x y a b h h' => .cpx k x y a b h h'
  | _, _, .str s => .str s
  | _, _, .nilp => .nilp
  | _, _, .ptr n i c l h h1 h2 => .ptr n i c l (hb _ _ h) h1 h2
  | _, _, .slc n o m l a cap h h1 => .slc n o m l a cap (hb _ _ h) h1
  | _, _, .nils κ a => .nils κ a
  | _, _, .fn f a b a' b' h h' => .fn f a b a' b' (VReps.mono hb h) (VReps.mono hb h')
  | _, _, .agg l cs h => .agg l cs (VReps.mono hb h)
  | _, _, .arv κ l cs h => .arv κ l cs (VReps.mono hb h)
  | _, _, .tup l cs h => .tup l cs (VReps.mono hb h)
theorem VReps.mono {β β' : Bt} (hb : β.le β') : ∀ {v : List AV} {u : List Value}, VReps β v u → VReps β' v u
  | _, _, .nil => .nil
  | _, _, .cons v u r s h h' => .cons v u r s (VRep.mono hb h) (VReps.mono hb h')
end

theorem VReps.length {β : Bt} : ∀ {l : List AV} {vs : List Value}, VReps β l vs → l.length = vs.length
  | _, _, .nil => rfl
  | _, _, .cons _ _ _ _ _ h => by simp [VReps.length h]

theorem VReps.get {β : Bt} : ∀ {l : List AV} {vs : List Value} (_ : VReps β l vs) (i : Nat) {v : AV}, l[i]? = some v → ∃ u, vs[i]? = some u ∧ VRep β v u
  | _, _, .nil, i, v, h => by simp at h
  | _, _, .cons a u r s h1 h2, 0, v, h => by simp at h; subst h; exact ⟨u, rfl, h1⟩
  | _, _, .cons a u r s h1 h2, i + 1, v, h => by simpa using VReps.get h2 i (by simpa using h)

theorem VReps.getD {β : Bt} {l : List AV} {vs : List Value} (h : VReps β l vs) (i : Nat) (d : Value) : VRep β (l.getD i .top) (vs.getD i d) := by
  cases hl : l[i]? with
  | none => simp [List.getD_eq_getElem?_getD, hl]; exact .top _
  | some v =>
    obtain ⟨u, hu, hv⟩ := h.get i hl
    simp [List.getD_eq_getElem?_getD, hl, hu]; exact hv

theorem VReps.set {β : Bt} : ∀ {l : List AV} {vs : List Value} (_ : VReps β l vs) (i : Nat) {v : AV} {u : Value}, VRep β v u → VReps β (l.set i v) (vs.set i u)
  | _, _, .nil, _, _, _, _ => .nil
  | _, _, .cons a b r s _ h2, 0, v, u, h => .cons v u r s h h2
  | _, _, .cons a b r s h1 h2, i + 1, v, u, h => .cons a b _ _ h1 (VReps.set h2 i h)

theorem VReps.append {β : Bt} : ∀ {l : List AV} {vs : List Value} {l' : List AV} {vs' : List Value}, VReps β l vs → VReps β l' vs' → VReps β (l ++ l') (vs ++ vs')
  | _, _, _, _, .nil, h => h
  | _, _, _, _, .cons _ _ _ _ h1 h2, h => .cons _ _ _ _ h1 (VReps.append h2 h)

theorem VReps.drop {β : Bt} : ∀ {l : List AV} {vs : List Value} (_ : VReps β l vs) (i : Nat), VReps β (l.drop i) (vs.drop i)
  | _, _, h, 0 => h
  | _, _, .nil, _ + 1 => by simpa using VReps.nil
  | _, _, .cons _ _ _ _ _ h2, i + 1 => VReps.drop h2 i

theorem VReps.take {β : Bt} : ∀ {l : List AV} {vs : List Value} (_ : VReps β l vs) (i : Nat), VReps β (l.take i) (vs.take i)
  | _, _, _, 0 => by simpa using VReps.nil
  | _, _, .nil, _ + 1 => by simpa using VReps.nil
  | _, _, .cons _ _ _ _ h1 h2, i + 1 => .cons _ _ _ _ h1 (VReps.take h2 i)

theorem VReps.tops {β : Bt} : ∀ (vs : List Value) (n : Nat), vs.length = n → VReps β (List.replicate n .top) vs
  | [], 0, _ => .nil
  | v :: r, n + 1, h => .cons _ _ _ _ (.top v) (VReps.tops r n (by simpa using h))
  | [], _ + 1, h => by simp at h
  | _ :: _, 0, h => by simp at h

theorem VReps.one {β : Bt} {v : AV} {u : Value} (h : VRep β v u) : VReps β [v] [u] := .cons _ _ _ _ h .nil

/-! ### Blocks -/
def Blk.own : Blk → Bool
  | .vals o _ => o
  | .arr o _ _ => o
  | .dead => false
def Blk.len : Blk → Nat
  | .vals _ l => l.length
  | .arr _ _ l => l.length
  | .dead => 0
def Blk.es : Blk → Nat
  | .vals _ _ => 1
  | .arr _ κ _ => κ.size
  | .dead => 0
def Blk.cl : Blk → List AV
  | .vals _ l => l
  | .arr _ κ l => l.flatMap κ.cells
  | .dead => []
def Blk.live : Blk → Prop
  | .dead => False
  | _ => True

theorem EK.size_pos : ∀ κ : EK, 0 < κ.size
  | .bool | .int _ | .flt _ | .cpx _ | .str => Nat.one_pos
  | .pair a b => by have := a.size_pos; show 0 < a.size + b.size; omega

theorem EK.cells_length : ∀ (κ : EK) (x : κ.den), (κ.cells x).length = κ.size
  | .bool, _ | .int _, _ | .flt _, _ | .cpx _, _ | .str, _ => rfl
  | .pair a b, x => by show ((a.cells x.1) ++ (b.cells x.2)).length = _; rw [List.length_append, EK.cells_length a, EK.cells_length b]; rfl

theorem flat_length (κ : EK) : ∀ l : List κ.den, (l.flatMap κ.cells).length = l.length * κ.size
  | [] => by simp
  | x :: r => by rw [List.flatMap_cons, List.length_append, EK.cells_length, flat_length κ r, List.length_cons, Nat.succ_mul]; omega

theorem Blk.cl_length (b : Blk) : b.cl.length = b.len * b.es := by
  cases b with
  | vals o l => simp [Blk.cl, Blk.len, Blk.es]
  | arr o κ l => exact flat_length κ l
  | dead => rfl

/-- cell c of element i -/
theorem flat_get (κ : EK) : ∀ (l : List κ.den) (i c : Nat) (x : κ.den), l[i]? = some x → c < κ.size → (l.flatMap κ.cells)[i * κ.size + c]? = (κ.cells x)[c]?
  | [], i, c, x, h, _ => by simp at h
  | y :: r, 0, c, x, h, hc => by
    simp at h; subst h
    rw [List.flatMap_cons, Nat.zero_mul, Nat.zero_add, List.getElem?_append_left (by rw [EK.cells_length]; exact hc)]
  | y :: r, i + 1, c, x, h, hc => by
    rw [List.flatMap_cons, List.getElem?_append_right (by rw [EK.cells_length, Nat.succ_mul]; omega), EK.cells_length]
    have : (i + 1) * κ.size + c - κ.size = i * κ.size + c := by rw [Nat.succ_mul]; omega
    rw [this]
    exact flat_get κ r i c x (by simpa using h) hc

/-- The cells of a block lie there. -/
def CRep (β : Bt) (w : World) (l : Loc) (cl : List AV) : Prop :=
  ∀ j v, cl[j]? = some v → ∃ u, w.cell? ⟨l.blk, l.off + j, none⟩ = some u ∧ VRep β v u

def OwnAt (w : World) (base : Nat) (l : Loc) : Prop :=
  0 < l.size → base ≤ l.blk ∧ (∃ cs e fr, w.heap[l.blk]? = some (.cells cs e fr) ∧ cs.size = l.size) ∧ ∀ o, o < l.size → w.frozen? ⟨l.blk, o, none⟩ = false

structure BRep (β : Bt) (w : World) (base : Nat) (l : Loc) (b : Blk) : Prop where
  own : l.own = b.own
  len : l.len = b.len
  es : l.es = b.es
  cells : CRep β w l b.cl
  mine : b.own = true → OwnAt w base l
  room : b.own = true → l.off + l.len * l.es ≤ l.size
  other : b.own = false → b.cl ≠ [] → l.blk < base

structure Rep (β : Bt) (h : Heap) (w : World) (base : Nat) : Prop where
  dom : ∀ n, hget h n = none → β n = none
  loc : ∀ n b, hget h n = some b → ∃ l, β n = some l
  blk : ∀ n b l, hget h n = some b → b.live → β n = some l → BRep β w base l b
  sep : ∀ n m b b' l l', n ≠ m → hget h n = some b → hget h m = some b' → b.live → b'.live → β n = some l → β m = some l' →
    l.own = true → l'.own = true → 0 < l.size → 0 < l'.size → l.blk ≠ l'.blk

end Go.Ab

/-
  Operations that turn no memory: what the machine does is what the evaluator tells. Part 1: the frame of it, arithmetic.
-/
namespace Go.Ab
open Go.RowKit

/-! ### Types -/
def DOk : TyD → TypeDesc → Prop
  | .bool, .bool => True
  | .int k, .int k' => k = k'
  | .flt k, .float k' => k = k'
  | .cpx k, .complex k' => k = k'
  | .str, .string => True
  | .slc e, .slice e' => e = e'
  | .arr n e, .array n' e' => n = n' ∧ e = e'
  | .struct fs, .struct fs' => fs = fs'.toList.map fun f => (f.type, f.offset)
  | .ptr e, .pointer e' => e = e'
  | .fn, .func _ _ _ => True
  | _, _ => False

structure TyOk (P : Program) (t : Nat) (i : TyI) : Prop where
  ex : ∃ info, P.info? t = some info ∧ info.size = i.size ∧ info.bytes = i.bytes ∧ ∃ z, info.zero = some z ∧ z.cells.size = i.size ∧ ∀ β, VReps β i.zero z.cells.toList
  und : ∃ d, P.underlying t = some d ∧ DOk i.d d

/-! ### What an operation comes to -/
def OpRes (P : Program) (o : Oper) (a : Act) (w : World) (R : Value → World → Prop) : Prop :=
  match (execOp a.eval o).run P w with
  | .ok (.value u) w' => R u w'
  | .ok .skip w' => R undef w'
  | .ok (.enter f args) w' => Calls P f args w' fun e w'' => ∃ u, e = .returned u ∧ R u w''
  | _ => False

theorem OpRes.mono {P : Program} {o : Oper} {a : Act} {w : World} {R R' : Value → World → Prop} (h : OpRes P o a w R) (hr : ∀ u w', R u w' → R' u w') : OpRes P o a w R' := by
  unfold OpRes at *
  generalize (execOp a.eval o).run P w = r at *
  cases r with
  | halt x w' => exact h.elim
  | ok n w' =>
    cases n
    case value u => exact hr _ _ h
    case skip => exact hr _ _ h
    case enter f args => exact h.mono fun e w'' ⟨u, e1, e2⟩ => ⟨u, e1, hr _ _ e2⟩
    all_goals exact h.elim

theorem OpRes.wp {P : Program} {o : Oper} {a : Act} {w : World} {R : Value → World → Prop} {next : Act → World → Prop} {Q : Exit → Act → World → Prop}
    (h : OpRes P o a w R) (hn : ∀ u w', R u w' → next (a.put o.dst u) w') : o.wp P a w next Q := by
  unfold OpRes at h
  unfold Oper.wp
  generalize (execOp a.eval o).run P w = r at *
  cases r with
  | halt x w' => exact h.elim
  | ok n w' =>
    cases n
    case value u => exact hn _ _ h
    case skip => exact hn _ _ h
    case enter f args => exact h.mono fun e w'' ⟨u, e1, e2⟩ => by subst e1; exact hn _ _ e2
    all_goals exact h.elim

/-- new blocks, each its own -/
structure NewRep (β' : Bt) (d : Heap) (w' : World) (base : Nat) : Prop where
  blk : ∀ n b, hget d n = some b → b.live ∧ b.own = true ∧ ∃ l, β' n = some l ∧ BRep β' w' base l b
  sep : ∀ n m b b' l l', n ≠ m → hget d n = some b → hget d m = some b' → β' n = some l → β' m = some l' → 0 < l.size → 0 < l'.size → l.blk ≠ l'.blk

/-- Behind an operation that turns no memory. -/
def AddPost (β : Bt) (w : World) (v : AV) (d : Heap) (u : Value) (w' : World) : Prop :=
  ∃ β', β.le β' ∧ Below w.heap.size w w' ∧ VRep β' v u ∧ (∀ n, hget d n = none → β' n = β n) ∧ NewRep β' d w' w.heap.size

theorem AddPost.none {β : Bt} {w w' : World} {v : AV} {u : Value} (hb : Below w.heap.size w w') (hv : VRep β v u) : AddPost β w v [] u w' :=
  ⟨β, β.le_refl, hb, hv, fun _ _ => rfl, ⟨fun _ _ h => by simp [hget] at h, fun _ _ _ _ _ _ _ h => by simp [hget] at h⟩⟩

theorem AddPost.same {β : Bt} {w : World} {v : AV} {u : Value} (hv : VRep β v u) : AddPost β w v [] u w := .none (Below.refl _ _) hv

/-- the value of an operation that only reckons, told by its run -/
theorem opRes_value {P : Program} {o : Oper} {a : Act} {w w' : World} {R : Value → World → Prop} {u : Value}
    (h : (execOp a.eval o).run P w = .ok (.value u) w') (hr : R u w') : OpRes P o a w R := by
  unfold OpRes; rw [h]; exact hr

/-! ### Operands -/
theorem ofConst0_rep (β : Bt) (v : Value) (hw : ∀ k b, v = .float k b → b < 2 ^ k.format.width) (hc : ∀ k a b, v = .complex k a b → a < 2 ^ k.format.width ∧ b < 2 ^ k.format.width) : VRep β (ofConst0 v) v := by
  unfold ofConst0
  split
  · exact .bl _
  · exact .int _ _
  · exact .flt _ _ _ (Fl.is_of (hw _ _ rfl))
  · exact .cpx _ _ _ _ _ (Fl.is_of (hc _ _ _ rfl).1) (Fl.is_of (hc _ _ _ rfl).2)
  · exact .str _
  · exact .nilp
  · exact .nils _ _
  · exact .top _

/-- the constants of an operand that are floats fit their kind -/
def constOk0 : Value → Bool
  | .float k b => decide (b < 2 ^ k.format.width)
  | .complex k a b => decide (a < 2 ^ k.format.width) && decide (b < 2 ^ k.format.width)
  | _ => true
def constOk : Value → Bool
  | .agg cs => cs.toList.all constOk0
  | v => constOk0 v
def opndOk : Operand → Bool
  | .const v => constOk v
  | _ => true
def operOk (o : Oper) : Bool := o.op.operands.toList.all opndOk

theorem constOk0_rep (β : Bt) {v : Value} (h : constOk0 v = true) : VRep β (ofConst0 v) v := by
  refine ofConst0_rep β v (fun k b e => ?_) (fun k a b e => ?_)
  · subst e; simpa [constOk0] using h
  · subst e; simpa [constOk0] using h

theorem constOks_rep (β : Bt) : ∀ (l : List Value), l.all constOk0 = true → VReps β (l.map ofConst0) l
  | [], _ => .nil
  | v :: r, h => by
    simp only [List.all_cons, Bool.and_eq_true] at h
    exact .cons _ _ _ _ (constOk0_rep β h.1) (constOks_rep β r h.2)

theorem constOk_rep (β : Bt) {v : Value} (h : constOk v = true) : VRep β (ofConst v) v := by
  cases v with
  | agg cs => exact .agg _ _ (constOks_rep β cs.toList h)
  | slice a n c => exact constOk0_rep β h
  | pointer a => exact constOk0_rep β h
  | bool b => exact .bl b
  | int k n => exact .int k n
  | float k b => exact constOk0_rep (v := .float k b) β h
  | complex k b c => exact constOk0_rep (v := .complex k b c) β h
  | string s => exact .str s
  | _ => exact .top _

theorem opv_rep {β : Bt} {tm : List AV} {a : Act} (ht : VReps β tm a.tmps.toList) (x : Operand) (hx : opndOk x = true) : VRep β (opv tm x) (a.eval x) := by
  cases x with
  | tmp t =>
    have := ht.getD t undef
    simpa [opv, Act.eval, Array.getD_eq_getD_getElem?, List.getD_eq_getElem?_getD] using this
  | const v => exact constOk_rep β hx
  | global g => exact .top _
  | func f => exact .fn _ _ _ _ _ .nil .nil

/-! ### Numbers -/
theorem nanbits_is {k : FloatKind} (q : Question) (hq : (∃ x y, q = .nanBits k x y) ∨ (∃ x, q = .nanConv k x)) (t : Nat) : q.forced = false ∧ (Fl.nan k).Is (q.cut t) := by
  have h : ∀ (f : Nat), nanB k f = true ∧ f < 2 ^ k.format.width → (Fl.nan k).Is f := fun f h => Fl.is_nan h.2 h.1
  rcases hq with ⟨x, y, rfl⟩ | ⟨x, rfl⟩
  · refine ⟨rfl, h _ ?_⟩
    cases k
    · exact nan_drawn32 t
    · exact nan_drawn64 t
  · refine ⟨rfl, h _ ?_⟩
    cases k
    · exact nan_drawn32 t
    · exact nan_drawn64 t

theorem below_drawn (B : Nat) (w : World) (n : Nat) : Below B w { w with drawn := n } := ⟨rfl, rfl, rfl, Nat.le_refl _, fun _ _ => rfl⟩

/-- '+', '-', '*', '/' on floats. -/
theorem run_floatArith_is {P : Program} (op : BinOp) (hop : op = .add ∨ op = .sub ∨ op = .mul ∨ op = .quo) {k : FloatKind} {x y : Fl k} {a b : Nat} (hx : x.Is a) (hy : y.Is b) (w : World) :
    ∃ r n, (Op.floatArith op k a b).run P w = .ok (.float k r) { w with drawn := n } ∧ (Fl.res k (floatBits op k x.bits y.bits)).Is r := by
  have hfb := floatBits_is op hx hy
  cases he : floatBits op k a b with
  | some r =>
    refine ⟨r, w.drawn, ?_, ?_⟩
    · exact run_floatArith w he
    · rw [← hfb, he]
      have := floatBits_wf he
      refine Fl.is_of ?_
      cases k
      · exact of_decide_eq_true this
      · exact of_decide_eq_true this
  | none =>
    refine ⟨(Question.nanBits k a b).cut (w.tape w.drawn (.nanBits k a b)), w.drawn + 1, ?_, ?_⟩
    · unfold floatBits at he
      rcases hop with rfl | rfl | rfl | rfl <;> simp only at he <;> simp [Op.floatArith, he, Question.forced]
    · rw [← hfb, he]
      exact (nanbits_is (.nanBits k a b) (.inl ⟨_, _, rfl⟩) _).2

end Go.Ab

/-
  Operations that turn no memory. Part 2: operators, conversions.
-/
namespace Go.Ab
open Go.RowKit

theorem den_ifb {α : Type} {b : Bool} {t : T α} {r : α} (h : (T.ifb b t).den = some r) : b = true ∧ t.den = some r := by
  cases b
  · simp [T.ifb, T.den] at h
  · exact ⟨rfl, by simpa [T.ifb, T.den] using h⟩

theorem den_ret {α : Type} {a r : α} (h : (T.ret a).den = some r) : a = r := by simpa [T.den] using h

theorem den_bind {α β : Type} : ∀ (t : T α) (k : α → T β), (t.bind k).den = t.den.bind fun a => (k a).den
  | .fail, _ => rfl
  | .ret _, _ => rfl
  | .node b t f, k => by
    cases b
    · exact den_bind f k
    · exact den_bind t k
  | .bnd o j, k => by
    cases o with
    | none => rfl
    | some x => exact den_bind (j x) k
  | .cas r j l, k => by
    cases r with
    | inl x => exact den_bind (j x) k
    | inr x => exact den_bind (l x) k
  | .miss _, _ => rfl

theorem den_bind_some {α β : Type} {t : T α} {k : α → T β} {r : β} (h : (t.bind k).den = some r) : ∃ a, t.den = some a ∧ (k a).den = some r := by
  rw [den_bind] at h
  cases ht : t.den with
  | none => rw [ht] at h; cases h
  | some a => rw [ht] at h; exact ⟨a, rfl, h⟩

theorem den_bnd {α β : Type} {o : Option β} {k : β → T α} {r : α} (h : (T.bnd o k).den = some r) : ∃ x, o = some x ∧ (k x).den = some r := by
  cases o with
  | none => simp [T.den] at h
  | some x => exact ⟨x, rfl, by simpa [T.den] using h⟩

theorem den_opt {α : Type} {o : Option α} {r : α} (h : (T.opt o).den = some r) : o = some r := by
  cases o with
  | none => simp [T.opt, T.den] at h
  | some x => rw [den_ret h]

theorem den_fail {α : Type} {r : α} (h : (T.fail : T α).den = some r) : False := by simp [T.den] at h

/-- A run that ends in the world it began in, but for draws. -/
def RunsTo {α : Type} (P : Program) (s : Sem α) (w : World) (R : α → Prop) : Prop := ∃ u n, s.run P w = .ok u { w with drawn := n } ∧ R u

theorem RunsTo.of {α : Type} {P : Program} {s : Sem α} {w : World} {R : α → Prop} {u : α} (h : s.run P w = .ok u w) (hr : R u) : RunsTo P s w R := ⟨u, w.drawn, h, hr⟩

theorem RunsTo.bind {α β : Type} {P : Program} {s : Sem α} {f : α → Sem β} {w : World} {R : α → Prop} {R' : β → Prop}
    (h : RunsTo P s w R) (hf : ∀ u, R u → ∀ n, RunsTo P (f u) { w with drawn := n } R') : RunsTo P (s >>= f) w R' := by
  obtain ⟨u, n, e, hr⟩ := h
  obtain ⟨u', n', e', hr'⟩ := hf u hr n
  exact ⟨u', n', by rw [Sem.run_bind, e]; exact e', hr'⟩

section
variable {P : Program} {β : Bt}

theorem shN_eq (k : IntKind) (y : Int) : shN k y = min y.toNat k.bits := rfl

theorem run_underlying' {P : Program} {w : World} {t : Nat} {d : TypeDesc} (h : P.underlying t = some d) : (underlying t).run P w = .ok d w := run_underlying h w

theorem binInt_run (op : BinOp) (hs : op ≠ .shl ∧ op ≠ .shr) (k : IntKind) (x y : Int) (yo : Operand) (v : AV) (xt : Nat) (w : World)
    (hz : ∀ z, isZeroConst yo = some z → z = (y == 0)) (he : (binInt op k x y yo).den = some v) :
    ∃ u, (binOp op xt (.int k x) (.int k y)).run P w = .ok u w ∧ VRep β v u := by
  cases op <;> simp only [binInt] at he <;> first | exact absurd rfl hs.1 | exact absurd rfl hs.2 | skip
  case add => rw [← den_ret he]; exact ⟨_, by simp [binOp, Op.intArith], .int _ _⟩
  case sub => rw [← den_ret he]; exact ⟨_, by simp [binOp, Op.intArith], .int _ _⟩
  case mul => rw [← den_ret he]; exact ⟨_, by simp [binOp, Op.intArith], .int _ _⟩
  case quo =>
    have hy : y ≠ 0 ∧ v = .int k (k.wrap (x.tdiv y)) := by
      split at he
      · exact (den_fail he).elim
      · rename_i h; exact ⟨by have := hz _ h; simpa using this, (den_ret he).symm⟩
      · obtain ⟨h1, h2⟩ := den_ifb he; exact ⟨by simpa using h1, (den_ret h2).symm⟩
    rw [hy.2]
    exact ⟨_, by simp [binOp, Op.intDiv, hy.1], .int _ _⟩
  case rem =>
    have hy : y ≠ 0 ∧ v = .int k (x.tmod y) := by
      split at he
      · exact (den_fail he).elim
      · rename_i h; exact ⟨by have := hz _ h; simpa using this, (den_ret he).symm⟩
      · obtain ⟨h1, h2⟩ := den_ifb he; exact ⟨by simpa using h1, (den_ret h2).symm⟩
    rw [hy.2]
    exact ⟨_, by simp [binOp, Op.intDiv, hy.1], .int _ _⟩
  case and => rw [← den_ret he]; exact ⟨_, by simp [binOp, Op.intBits, ibits], .int _ _⟩
  case or => rw [← den_ret he]; exact ⟨_, by simp [binOp, Op.intBits, ibits], .int _ _⟩
  case xor => rw [← den_ret he]; exact ⟨_, by simp [binOp, Op.intBits, ibits], .int _ _⟩
  case andNot => rw [← den_ret he]; exact ⟨_, by simp [binOp, Op.intBits, ibits], .int _ _⟩
  case eql => rw [← den_ret he]; exact ⟨_, by simp [binOp, Op.intCmp], .bs _⟩
  case neq => rw [← den_ret he]; exact ⟨_, by simp [binOp, Op.intCmp], .bs _⟩
  case lss => rw [← den_ret he]; exact ⟨_, by simp [binOp, Op.intCmp], .bs _⟩
  case leq => rw [← den_ret he]; exact ⟨_, by simp [binOp, Op.intCmp], .bs _⟩
  case gtr => rw [← den_ret he]; exact ⟨_, by simp [binOp, Op.intCmp], .bs _⟩
  case geq => rw [← den_ret he]; exact ⟨_, by simp [binOp, Op.intCmp], .bs _⟩

theorem binOp_float (op : BinOp) (hs : op ≠ .shl ∧ op ≠ .shr) (k : FloatKind) (a b : Nat) (xt : Nat) : binOp op xt (.float k a) (.float k b) = match op with | .add | .sub | .mul | .quo => Op.floatArith op k a b | _ => Op.floatCmp op k a b := by
  cases op <;> first | exact absurd rfl hs.1 | exact absurd rfl hs.2 | simp [binOp]

theorem binFlt_run (op : BinOp) (hs : op ≠ .shl ∧ op ≠ .shr) (k : FloatKind) (x y : Fl k) (a b : Nat) (hx : x.Is a) (hy : y.Is b) (v : AV) (xt : Nat) (w : World) (he : (binFlt op k x y).den = some v) :
    RunsTo P (binOp op xt (.float k a) (.float k b)) w (VRep β v) := by
  rw [binOp_float op hs]
  have hord := order_is hx hy
  cases op <;> simp only [binFlt] at he <;> first | exact absurd rfl hs.1 | exact absurd rfl hs.2 | exact (den_fail he).elim | skip
  case add =>
    obtain ⟨r, n, h1, h2⟩ := run_floatArith_is (P := P) .add (.inl rfl) hx hy w
    rw [← den_ret he]; exact ⟨_, n, h1, .flt _ _ _ h2⟩
  case sub =>
    obtain ⟨r, n, h1, h2⟩ := run_floatArith_is (P := P) .sub (.inr (.inl rfl)) hx hy w
    rw [← den_ret he]; exact ⟨_, n, h1, .flt _ _ _ h2⟩
  case mul =>
    obtain ⟨r, n, h1, h2⟩ := run_floatArith_is (P := P) .mul (.inr (.inr (.inl rfl))) hx hy w
    rw [← den_ret he]; exact ⟨_, n, h1, .flt _ _ _ h2⟩
  case quo =>
    obtain ⟨r, n, h1, h2⟩ := run_floatArith_is (P := P) .quo (.inr (.inr (.inr rfl))) hx hy w
    rw [← den_ret he]; exact ⟨_, n, h1, .flt _ _ _ h2⟩
  case eql => rw [← den_ret he]; refine RunsTo.of (u := .bool (feq x y)) ?_ (.bs _); simp [Op.floatCmp, hord, feq]
  case neq => rw [← den_ret he]; refine RunsTo.of (u := .bool (fne x y)) ?_ (.bs _); simp [Op.floatCmp, hord, fne]
  case lss => rw [← den_ret he]; refine RunsTo.of (u := .bool (Go.Ab.flt x y)) ?_ (.bs _); simp [Op.floatCmp, hord, Go.Ab.flt]
  case leq => rw [← den_ret he]; refine RunsTo.of (u := .bool (fle x y)) ?_ (.bs _); simp [Op.floatCmp, hord, fle]
  case gtr => rw [← den_ret he]; refine RunsTo.of (u := .bool (fgt x y)) ?_ (.bs _); simp [Op.floatCmp, hord, fgt]
  case geq => rw [← den_ret he]; refine RunsTo.of (u := .bool (fge x y)) ?_ (.bs _); simp [Op.floatCmp, hord, fge]

theorem run_carith_is (op : BinOp) (hop : op = .add ∨ op = .sub ∨ op = .mul ∨ op = .quo) {k : FloatKind} {x y : Fl k} {a b : Nat} (hx : x.Is a) (hy : y.Is b) (w : World) :
    RunsTo P (Op.Complex.arith op k a b) w (Fl.res k (floatBits op k x.bits y.bits)).Is := by
  obtain ⟨r, n, h1, h2⟩ := run_floatArith_is (P := P) op hop hx hy w
  exact ⟨r, n, by simp [Op.Complex.arith, h1], h2⟩

/-- What the bool type's '==' reckons. -/
theorem run_equal_bool {xt : Nat} (ht : P.underlying xt = some .bool) (x y : Bool) (w : World) : (Op.equal xt (.bool x) (.bool y)).run P w = .ok (x == y) w := by
  unfold Op.equal
  show (Op.equalIn (9999 + 1) xt (.bool x) (.bool y)).run P w = _
  unfold Op.equalIn
  simp [run_underlying ht]

end

structure SpecOk (P : Program) (f : Nat) (s : FSpec) : Prop where
  dummy : True

/-- The evaluator's tables are the program's. -/
structure TysOk (P : Program) (Γ : Ctx) : Prop where
  ty : ∀ t i, Γ.ty t = some i → TyOk P t i

theorem TysOk.bool {P : Program} {Γ : Ctx} (h : TysOk P Γ) {t : Nat} (hb : isBoolTy Γ t = true) : P.underlying t = some .bool := by
  unfold isBoolTy at hb
  split at hb
  · rename_i e
    obtain ⟨d, h1, h2⟩ := (h.ty _ _ e).und
    cases d <;> simp [DOk] at h2
    exact h1
  · cases hb

theorem binOpA_run {P : Program} {β : Bt} {Γ : Ctx} (hΓ : TysOk P Γ) (op : BinOp) (xt : Nat) (a b : AV) (yo : Operand) (x y : Value) (hx : VRep β a x) (hy : VRep β b y)
    (hz : ∀ z, isZeroConst yo = some z → ∀ k n, y = .int k n → z = (n == 0)) (v : AV) (w : World) (he : (binOpA Γ op xt a b yo).den = some v) :
    RunsTo P (binOp op xt x y) w (VRep β v) ∧ (∀ xo yo' : Operand, (eqGuard op xt xo yo' x y).run P w = .ok () w) := by
  unfold binOpA at he
  split at he
  · -- shl
    cases hx; cases hy
    obtain ⟨h1, h2⟩ := den_ifb he
    rw [← den_ret h2]
    refine ⟨RunsTo.of (u := .int _ _) ?_ (.int _ _), fun _ _ => by simp [eqGuard]⟩
    simp [binOp, Op.shift, Int.not_lt.2 (of_decide_eq_true h1), shN]
  · cases hx; cases hy
    obtain ⟨h1, h2⟩ := den_ifb he
    rw [← den_ret h2]
    refine ⟨RunsTo.of (u := .int _ _) ?_ (.int _ _), fun _ _ => by simp [eqGuard]⟩
    simp [binOp, Op.shift, Int.not_lt.2 (of_decide_eq_true h1), shN]
  · -- ints
    rename_i hn1 hn2
    cases hx; cases hy
    split at he
    · rename_i e; subst e
      obtain ⟨u, h1, h2⟩ := binInt_run (P := P) (β := β) op ⟨hn1, hn2⟩ _ _ _ yo v xt w (fun z hz' => hz z hz' _ _ rfl) he
      exact ⟨RunsTo.of h1 h2, fun _ _ => by simp [eqGuard]⟩
    · exact (den_fail he).elim
  · -- floats
    rename_i hn
    cases hx with
    | flt k x b hx =>
    cases hy with
    | flt k' y b' hy =>
    split at he
    · rename_i e; subst e
      refine ⟨binFlt_run op ?_ _ _ _ _ _ hx hy v xt w he, fun _ _ => by simp [eqGuard]⟩
      constructor
      · rintro rfl; simp [binFlt] at he; exact den_fail he
      · rintro rfl; simp [binFlt] at he; exact den_fail he
    · exact (den_fail he).elim
  · cases hx with
    | cpx k x y a b hx hy' =>
    cases hy with
    | cpx k' z u c d hz' hu =>
    split at he
    · rename_i e; subst e
      refine ⟨?_, fun _ _ => by simp [eqGuard]⟩
      rw [← den_ret he]
      have : ∀ k, binOp .add xt (.complex k a b) (.complex k c d) = (do pure (.complex k (← Op.Complex.arith .add k a c) (← Op.Complex.arith .add k b d))) := fun k => by simp [binOp, Op.complexOp]
      rw [this]
      refine (run_carith_is .add (.inl rfl) hx hz' w).bind fun r hr n => ?_
      refine (run_carith_is .add (.inl rfl) hy' hu _).bind fun r' hr' n' => ?_
      exact RunsTo.of rfl (.cpx _ _ _ _ _ hr hr')
    · exact (den_fail he).elim
  · cases hx with
    | cpx k x y a b hx hy' =>
    cases hy with
    | cpx k' z u c d hz' hu =>
    split at he
    · rename_i e; subst e
      refine ⟨?_, fun _ _ => by simp [eqGuard]⟩
      rw [← den_ret he]
      have : ∀ k, binOp .sub xt (.complex k a b) (.complex k c d) = (do pure (.complex k (← Op.Complex.arith .sub k a c) (← Op.Complex.arith .sub k b d))) := fun k => by simp [binOp, Op.complexOp]
      rw [this]
      refine (run_carith_is .sub (.inr (.inl rfl)) hx hz' w).bind fun r hr n => ?_
      refine (run_carith_is .sub (.inr (.inl rfl)) hy' hu _).bind fun r' hr' n' => ?_
      exact RunsTo.of rfl (.cpx _ _ _ _ _ hr hr')
    · exact (den_fail he).elim
  · cases hx with
    | cpx k x y a b hx hy' =>
    cases hy with
    | cpx k' z u c d hz' hu =>
    split at he
    · rename_i e; subst e
      refine ⟨?_, fun _ _ => by simp [eqGuard]⟩
      rw [← den_ret he]
      refine RunsTo.of (u := .bool _) ?_ (.bs _)
      rw [run_eql_complex, order_is hx hz', order_is hy' hu]; rfl
    · exact (den_fail he).elim
  · cases hx with
    | cpx k x y a b hx hy' =>
    cases hy with
    | cpx k' z u c d hz' hu =>
    split at he
    · rename_i e; subst e
      refine ⟨?_, fun _ _ => by simp [eqGuard]⟩
      rw [← den_ret he]
      refine RunsTo.of (u := .bool _) ?_ (.bs _)
      rw [run_neq_complex, order_is hx hz', order_is hy' hu]; rfl
    · exact (den_fail he).elim
  · cases hx; cases hy
    rename_i p q
    obtain ⟨h1, h2⟩ := den_ifb he
    rw [← den_ret h2]
    refine ⟨RunsTo.of (u := .string _) ?_ (.str _), fun _ _ => by simp [eqGuard]⟩
    have h3 : p.size + q.size ≤ 9223372036854775807 := of_decide_eq_true h1
    have : ¬ (((p.size + q.size : Nat) : Int) > IntKind.i64.max) := by show ¬ ((_ : Int) > 9223372036854775807); omega
    simp only [binOp, Op.stringOp]
    rw [if_neg this]; rfl
  · cases hx; cases hy
    rw [← den_ret he]
    exact ⟨RunsTo.of (u := .bool _) (by simp [binOp, Op.stringOp, strEq]) (.bs _), fun _ _ => by simp [eqGuard]⟩
  · cases hx; cases hy
    rw [← den_ret he]
    exact ⟨RunsTo.of (u := .bool _) (by simp [binOp, Op.stringOp, strEq]) (.bs _), fun _ _ => by simp [eqGuard]⟩
  all_goals first
    | exact (den_fail he).elim
    | (cases hx; cases hy
       rename_i p q
       split at he
       · rename_i hb
         rw [← den_ret he]
         have ht := hΓ.bool hb
         refine ⟨?_, fun _ _ => by simp [eqGuard]⟩
         first
           | (refine RunsTo.of (u := .bool (p == q)) (by simp [binOp, run_equal_bool ht]) ?_; first | exact .bs _ | exact .bl _)
           | (refine RunsTo.of (u := .bool (!(p == q))) (by simp [binOp, run_equal_bool ht]) ?_; first | exact .bs _ | exact .bl _)
       · exact (den_fail he).elim)


theorem TysOk.slc {P : Program} {Γ : Ctx} (h : TysOk P Γ) {t : Nat} (hb : isSlcTy Γ t = true) : ∃ e, P.underlying t = some (.slice e) := by
  unfold isSlcTy at hb
  split at hb
  · rename_i e
    obtain ⟨d, h1, h2⟩ := (h.ty _ _ e).und
    cases d <;> simp [DOk] at h2
    exact ⟨_, h1⟩
  · cases hb

theorem run_equal_nil {P : Program} {t e : Nat} (ht : P.underlying t = some (.slice e)) (a : Addr) (l c : Nat) (w : World) : (Op.equal t (.slice (some a) l c) (.slice none 0 0)).run P w = .ok false w := by
  unfold Op.equal
  show (Op.equalIn (9999 + 1) t (.slice (some a) l c) (.slice none 0 0)).run P w = _
  unfold Op.equalIn
  simp [run_underlying ht]

theorem nilCmp_run {P : Program} {β : Bt} {Γ : Ctx} (hΓ : TysOk P Γ) (op : BinOp) (t : Nat) (a : AV) (yo : Operand) (x y : Value) (hx : VRep β a x) (hy : isNilConst yo = true → y = .slice none 0 0)
    (τ : T AV) (hτ : nilCmp Γ op t a yo = some τ) (v : AV) (w : World) (he : τ.den = some v) :
    RunsTo P (binOp op t x y) w (VRep β v) ∧ (∀ xo yo' : Operand, (eqGuard op t xo yo' x y).run P w = .ok () w) := by
  unfold nilCmp at hτ
  have go : ∀ (n off len : Nat), VRep β (.slc n off len) x → 0 < len → ∃ ad l c, x = .slice (some ad) l c := by
    intro n off len hx hl
    cases hx with
    | slc _ _ _ loc ad cap _ hok =>
      obtain ⟨_, h⟩ := hok
      rcases h with ⟨h0, _⟩ | ⟨h1, _⟩
      · omega
      · exact ⟨_, _, _, by rw [h1]⟩
  split at hτ
  · rename_i n off len
    cases hb : isNilConst yo && isSlcTy Γ t with
    | false => rw [hb] at hτ; cases hτ
    | true =>
      rw [hb] at hτ
      cases hτ
      rw [Bool.and_eq_true] at hb
      obtain ⟨h1, h2⟩ := den_ifb he
      rw [← den_ret h2]
      obtain ⟨e, ht⟩ := hΓ.slc hb.2
      obtain ⟨ad, l, c, rfl⟩ := go n off len hx (of_decide_eq_true h1)
      rw [hy hb.1]
      refine ⟨RunsTo.of (u := .bool false) (by simp [binOp, run_equal_nil ht]) (.bl _), fun _ _ => by simp [eqGuard]⟩
  · rename_i n off len
    cases hb : isNilConst yo && isSlcTy Γ t with
    | false => rw [hb] at hτ; cases hτ
    | true =>
      rw [hb] at hτ
      cases hτ
      rw [Bool.and_eq_true] at hb
      obtain ⟨h1, h2⟩ := den_ifb he
      rw [← den_ret h2]
      obtain ⟨e, ht⟩ := hΓ.slc hb.2
      obtain ⟨ad, l, c, rfl⟩ := go n off len hx (of_decide_eq_true h1)
      rw [hy hb.1]
      refine ⟨RunsTo.of (u := .bool true) (by simp [binOp, run_equal_nil ht]) (.bl _), fun _ _ => by simp [eqGuard]⟩
  · cases hτ

end Go.Ab

/-
  Operations that turn no memory. Part 3: the unary operators and conversions.
-/
namespace Go.Ab
open Go.RowKit

theorem unOpA_run {P : Program} {β : Bt} (op : UnOp) (a : AV) (x : Value) (hx : VRep β a x) (v : AV) (w : World) (he : (unOpA op a).den = some v) : RunsTo P (Op.unary op x) w (VRep β v) := by
  unfold unOpA at he
  split at he
  · cases hx; rw [← den_ret he]; exact RunsTo.of (u := .int _ _) (by simp [Op.unary, Op.intArith]) (.int _ _)
  · cases hx with
    | flt k x b h => rw [← den_ret he]; exact RunsTo.of (u := .float _ _) (by simp [Op.unary]) (.flt _ _ _ (fneg_is h))
  · cases hx with
    | cpx k x y a b h h' => rw [← den_ret he]; exact RunsTo.of (u := .complex _ _ _) (by simp [Op.unary]) (.cpx _ _ _ _ _ (fneg_is h) (fneg_is h'))
  · cases hx; rw [← den_ret he]; exact RunsTo.of (u := .bool _) (by simp [Op.unary]) (.bs _)
  · cases hx; rw [← den_ret he]; exact RunsTo.of (u := .bool _) (by simp [Op.unary]) (.bl _)
  · exact (den_fail he).elim

theorem encode_lt (k : FloatKind) (d : Ieee.Datum) : k.encode d < 2 ^ k.format.width := k.format.write_lt d

/-- float32 ↔ float64, where the language fixes the result. -/
theorem fconv_run {P : Program} {s d : FloatKind} (hsd : s ≠ d) {x : Fl s} {a : Nat} (hx : x.Is a) {y : Fl d} (h : fconv s d x = some y) (w : World) :
    RunsTo P (Conv.floatToFloat s a d) w fun v => ∃ r, v = .float d r ∧ y.Is r := by
  have nanCase : ∀ b, nanB s b = true → y = Fl.nan d → RunsTo P (Conv.floatToFloat s b d) w fun v => ∃ r, v = .float d r ∧ y.Is r := by
    intro b hb hy
    obtain ⟨g, t, e⟩ := datum_nan hb
    have hq := (nanbits_is (k := d) (.nanConv d b) (.inr ⟨_, rfl⟩) (w.tape w.drawn (.nanConv d b)))
    refine ⟨.float d ((Question.nanConv d b).cut (w.tape w.drawn (.nanConv d b))), w.drawn + 1, ?_, _, rfl, by rw [hy]; exact hq.2⟩
    unfold Conv.floatToFloat
    rw [if_neg hsd, e]
    simp [hq.1]
  rcases hx.cases with rfl | ⟨hn, hxn⟩
  · unfold fconv at h
    split at h
    · rename_i g t e
      refine nanCase _ ?_ (by cases h; rfl)
      unfold nanB; rw [e]; rfl
    · rename_i g e
      cases h
      refine RunsTo.of (u := .float d (d.encode (.infinity g))) ?_ ⟨_, rfl, Fl.is_of (encode_lt _ _)⟩
      unfold Conv.floatToFloat
      rw [if_neg hsd, e]; rfl
    · rename_i g m t e
      split at h
      · cases h
      · rename_i hi
        cases h
        refine RunsTo.of (u := .float d (d.encode (.number g m t))) ?_ ⟨_, rfl, Fl.is_of (encode_lt _ _)⟩
        unfold Conv.floatToFloat
        rw [if_neg hsd, e]
        simp only [hi]; rfl
  · subst hxn
    rw [fconv_nan_nan] at h
    exact nanCase _ hn (by cases h; rfl)

theorem log2_lt {m n : Nat} (hm : m ≠ 0) (h : m < 2 ^ n) : m.log2 < n := (Nat.log2_lt hm).2 h

/-- A float32 number is a float64 number: what its bits are. -/
theorem widen_rung (neg : Bool) (m : Nat) (p : Int) (hm : m < 2 ^ 24) (h1 : -149 ≤ p) (h2 : p ≤ 104) :
    ∃ r, r < Ieee.double.infRung ∧ Ieee.double.write (.number neg m p) = Ieee.double.word neg r := by
  show ∃ r, r < Ieee.double.infRung ∧ Ieee.double.nearest neg m p = Ieee.double.word neg r
  unfold Ieee.Format.nearest
  by_cases h0 : m = 0
  · rw [if_pos h0]; exact ⟨0, by decide, rfl⟩
  · rw [if_neg h0]
    have hl := log2_lt h0 hm
    have hf : (Ieee.double.fractionBits : Int) = 52 := rfl
    have hp : Ieee.double.leastPlace = -1074 := by decide
    have hb : Ieee.double.binade = 2 ^ 52 := rfl
    have hi : Ieee.double.infRung = 2047 * 2 ^ 52 := rfl
    have hlast : max (p + (m.log2 : Int) - (Ieee.double.fractionBits : Int)) Ieee.double.leastPlace = p + (m.log2 : Int) - 52 := by
      rw [hf, hp]; omega
    simp only [hlast]
    have hd : (p + (m.log2 : Int) - 52 - p).toNat = 0 := by omega
    have hu : (p - (p + (m.log2 : Int) - 52)).toNat = 52 - m.log2 := by omega
    rw [hd, hu]
    have hcut : ∀ n, Ieee.Toward.even.cut neg n 0 = n := by
      intro n
      unfold Ieee.Toward.cut
      simp [Nat.mod_one]
    rw [hcut]
    have hk : m <<< (52 - m.log2) < 2 ^ 53 := by
      rw [Nat.shiftLeft_eq]
      have h3 : m < 2 ^ (m.log2 + 1) := Nat.lt_log2_self
      have h4 : 2 ^ (m.log2 + 1) * 2 ^ (52 - m.log2) = 2 ^ 53 := by rw [← Nat.pow_add]; congr 1; omega
      calc m * 2 ^ (52 - m.log2) < 2 ^ (m.log2 + 1) * 2 ^ (52 - m.log2) := Nat.mul_lt_mul_of_pos_right h3 (Nat.two_pow_pos _)
        _ = 2 ^ 53 := h4
    have hL : (p + (m.log2 : Int) - 52 - Ieee.double.leastPlace).toNat ≤ 1149 := by rw [hp]; omega
    revert hk hL
    generalize m <<< (52 - m.log2) = K
    generalize (p + (m.log2 : Int) - 52 - Ieee.double.leastPlace).toNat = L
    intro hk hL
    have h6 : L * Ieee.double.binade + K < Ieee.double.infRung := by
      rw [hi, hb]
      have h5 : L * 2 ^ 52 ≤ 1149 * 2 ^ 52 := Nat.mul_le_mul_right _ hL
      omega
    exact ⟨L * Ieee.double.binade + K, h6, congrArg (Ieee.double.word neg) (Nat.min_eq_left (Nat.le_of_lt h6))⟩

theorem read_word (neg : Bool) (r : Nat) (h : r < Ieee.double.infRung) : ((Ieee.double.read (Ieee.double.word neg r)).isInfinity = false) ∧ (Ieee.double.read (Ieee.double.word neg r)).isNaN = false := by
  have hs : Ieee.double.signWeight = 2 ^ 63 := rfl
  have hi : Ieee.double.infRung = 2047 * 2 ^ 52 := rfl
  have hm : (Ieee.double.word neg r) % Ieee.double.signWeight = r := by
    unfold Ieee.Format.word
    split <;> rw [hs] <;> rw [hi] at h <;> omega
  unfold Ieee.Format.read
  simp only [hm, if_pos h]
  split
  · exact ⟨rfl, rfl⟩
  · exact ⟨rfl, rfl⟩

theorem read32_number {b : Nat} {g : Bool} {m : Nat} {p : Int} (h : FloatKind.f32.decode b = .number g m p) : m < 2 ^ 24 ∧ -149 ≤ p ∧ p ≤ 104 := by
  have hs : Ieee.single.signWeight = 2 ^ 31 := rfl
  have hi : Ieee.single.infRung = 255 * 2 ^ 23 := rfl
  have hb : Ieee.single.binade = 2 ^ 23 := rfl
  have hl : Ieee.single.leastPlace = -149 := by decide
  unfold FloatKind.decode FloatKind.format Ieee.Format.read at h
  simp only [hs, hi, hb, hl] at h
  split at h
  · cases h; omega
  · split at h
    · cases h
      have := Nat.mod_lt (b % 2 ^ 31) (show 0 < 2 ^ 23 by omega)
      have h5 : b % 2 ^ 31 / 2 ^ 23 < 255 := by omega
      refine ⟨by omega, by omega, by omega⟩
    · split at h <;> cases h

theorem fconv_wide (x : Fl .f32) : ∃ y, fconv .f32 .f64 x = some y := by
  unfold fconv
  split
  · exact ⟨_, rfl⟩
  · exact ⟨_, rfl⟩
  · rename_i g m p e
    obtain ⟨hm, h1, h2⟩ := read32_number e
    obtain ⟨r, hr, hw⟩ := widen_rung g m p hm h1 h2
    have : (FloatKind.f64.decode (FloatKind.f64.encode (.number g m p))).isInfinity = false := by
      show (Ieee.double.read (Ieee.double.write (.number g m p))).isInfinity = false
      rw [hw]; exact (read_word g r hr).1
    rw [this]
    exact ⟨_, rfl⟩

theorem fconv_fwide (x : Fl .f32) : fconv .f32 .f64 x = some (fwide x) := by
  obtain ⟨y, hy⟩ := fconv_wide x
  unfold fwide; rw [hy]; rfl

/-- What 'string(b)' of bytes reads. -/
theorem bytesLoop {P : Program} (f : Value → ByteArray → Sem (ForInStep ByteArray)) (hf : ∀ n s, f (.int .u8 n) s = pure (ForInStep.yield (s.push (UInt8.ofNat n.toNat)))) (w : World) : ∀ (l : List Int) (vs : List Value) (s : ByteArray) (_ : vs = l.map fun n => Value.int .u8 n),
    (forIn (m := Sem) vs s f).run P w = .ok (⟨s.data ++ (l.map fun n => UInt8.ofNat n.toNat).toArray⟩) w := by
  intro l
  induction l with
  | nil => intro vs s h; subst h; simp
  | cons n r ih =>
    intro vs s h
    subst h
    rw [List.map_cons, List.forIn_cons, hf]
    simp only [Sem.run_bind, Sem.run_pure, Result.andThen_ok]
    rw [ih _ _ rfl]
    congr 1
    apply ByteArray.ext
    simp [ByteArray.push]

end Go.Ab

/-
  Reading memory: what the cells of a named block hold.
-/
namespace Go.Ab
open Go.RowKit

def Sub (g h : Heap) : Prop := ∀ n b, hget g n = some b → hget h n = some b
theorem Sub.refl (h : Heap) : Sub h h := fun _ _ e => e

theorem addr_add (blk o j : Nat) : (⟨blk, o, none⟩ : Addr).add j = ⟨blk, o + j, none⟩ := by
  unfold Addr.add
  split
  · rename_i h; subst h; rfl
  · rfl

theorem cell_lt {w : World} {a : Addr} {v : Value} (h : w.cell? a = some v) : a.block < w.heap.size := by
  unfold World.cell? at h
  cases hb : w.heap[a.block]? with
  | none => rw [hb] at h; cases h
  | some o => exact (Array.getElem?_eq_some_iff.1 hb).1

theorem flat_drop (κ : EK) : ∀ (l : List κ.den) (n : Nat), (l.drop n).flatMap κ.cells = (l.flatMap κ.cells).drop (n * κ.size)
  | l, 0 => by simp
  | [], n + 1 => by simp
  | x :: r, n + 1 => by
    rw [List.drop_succ_cons, flat_drop κ r n, List.flatMap_cons, List.drop_append, EK.cells_length]
    have h1 : (n + 1) * κ.size - κ.size = n * κ.size := by rw [Nat.succ_mul]; omega
    have h2 : (κ.cells x).drop ((n + 1) * κ.size) = [] := List.drop_eq_nil_of_le (by rw [EK.cells_length, Nat.succ_mul]; omega)
    rw [h1, h2, List.nil_append]

theorem flat_take (κ : EK) : ∀ (l : List κ.den) (n : Nat), (l.take n).flatMap κ.cells = (l.flatMap κ.cells).take (n * κ.size)
  | l, 0 => by simp
  | [], n + 1 => by simp
  | x :: r, n + 1 => by
    rw [List.take_succ_cons, List.flatMap_cons, flat_take κ r n, List.flatMap_cons, List.take_append, EK.cells_length]
    have h1 : (n + 1) * κ.size - κ.size = n * κ.size := by rw [Nat.succ_mul]; omega
    have h2 : (κ.cells x).take ((n + 1) * κ.size) = κ.cells x := List.take_of_length_le (by rw [EK.cells_length, Nat.succ_mul]; omega)
    rw [h1, h2]

theorem sub_length {α : Type} (l : List α) {off len : Nat} (h : off + len ≤ l.length) : (sub l off len).length = len := by
  unfold sub; rw [List.length_take, List.length_drop]; omega

theorem sub_flat (κ : EK) (l : List κ.den) (off len : Nat) : (sub l off len).flatMap κ.cells = ((l.flatMap κ.cells).drop (off * κ.size)).take (len * κ.size) := by
  unfold sub; rw [flat_take, flat_drop]

section
variable {β : Bt} {h : Heap} {w : World} {base : Nat}

theorem Rep.get (hr : Rep β h w base) {n : Nat} {b : Blk} (hn : hget h n = some b) (hb : b.live) {l : Loc} (hl : β n = some l) : BRep β w base l b := hr.blk n b l hn hb hl

/-- The cell that a pointer leads to. -/
theorem Rep.cell (hr : Rep β h w base) {n : Nat} {b : Blk} (hn : hget h n = some b) (hb : b.live) {l : Loc} (hl : β n = some l) {j : Nat} {v : AV} (hj : b.cl[j]? = some v) :
    ∃ u, w.cell? ⟨l.blk, l.off + j, none⟩ = some u ∧ VRep β v u := (hr.get hn hb hl).cells j v hj

theorem slc_cells (hr : Rep β h w base) {n off len : Nat} {o : Bool} {κ : EK} {l : List κ.den} (hn : hget h n = some (.arr o κ l)) {v : Value} (hv : VRep β (.slc n off len) v) :
    ∃ a cap, v = .slice a len cap ∧ (sub l off len).length = len ∧
      (len = 0 ∨ ∃ blk o, a = some ⟨blk, o, none⟩ ∧ ∀ j x, ((sub l off len).flatMap κ.cells)[j]? = some x → ∃ u, w.cell? ⟨blk, o + j, none⟩ = some u ∧ VRep β x u) := by
  cases hv with
  | slc n off len loc a cap hloc hok =>
    have hb := hr.get hn trivial hloc
    have hlen : loc.len = l.length := hb.len
    have hes : loc.es = κ.size := hb.es
    obtain ⟨h1, h2⟩ := hok
    refine ⟨a, cap, rfl, sub_length l (by omega), ?_⟩
    rcases h2 with h2 | ⟨h2, h3, _⟩
    · exact .inl h2.1
    · refine .inr ⟨loc.blk, loc.off + off * loc.es, h2, fun j x hj => ?_⟩
      rw [sub_flat, List.getElem?_take] at hj
      split at hj
      · rw [List.getElem?_drop] at hj
        obtain ⟨u, hu, hv⟩ := hb.cells (off * κ.size + j) x hj
        refine ⟨u, ?_, hv⟩
        rw [hes, Nat.add_assoc]; exact hu
      · cases hj
end

/-- VReps of a list, cell by cell. -/
theorem VReps.of_cells {β : Bt} (f : Nat → Option Value) : ∀ (l : List AV), (∀ j x, l[j]? = some x → ∃ u, f j = some u ∧ VRep β x u) → ∃ us : List Value, (∀ (j : Nat) u, us[j]? = some u → f j = some u) ∧ us.length = l.length ∧ VReps β l us
  | [], _ => ⟨[], fun j u h => by simp at h, rfl, .nil⟩
  | v :: r, h => by
    obtain ⟨u, hu, hv⟩ := h 0 v rfl
    obtain ⟨us, h1, h2, h3⟩ := VReps.of_cells (fun j => f (j + 1)) r (fun j x hj => h (j + 1) x (by simpa using hj))
    refine ⟨u :: us, fun j x hj => ?_, by simp [h2], .cons _ _ _ _ hv h3⟩
    cases j with
    | zero => simp at hj; subst hj; exact hu
    | succ j => exact h1 j x (by simpa using hj)

/-- A row of cells that lie there is read as they are. -/
theorem load_cells {P : Program} {β : Bt} {w : World} {blk o : Nat} {l : List AV} (hc : ∀ j x, l[j]? = some x → ∃ u, w.cell? ⟨blk, o + j, none⟩ = some u ∧ VRep β x u) :
    ∃ us : List Value, us.length = l.length ∧ VReps β l us ∧ (loadCells ⟨blk, o, none⟩ l.length).run P w = .ok us.toArray w := by
  obtain ⟨us, h1, h2, h3⟩ := VReps.of_cells (fun j => w.cell? ⟨blk, o + j, none⟩) l hc
  refine ⟨us, h2, h3, ?_⟩
  have := run_loadCells_list (P := P) (w := w) ⟨blk, o, none⟩ us (fun j v hj => by rw [addr_add]; exact h1 j v hj)
  rw [h2] at this
  exact this

theorem ints_of_reps {β : Bt} {k : IntKind} : ∀ (l : List Int) (us : List Value), VReps β (l.flatMap (EK.int k).cells) us → us = l.map fun n => Value.int k n
  | [], us, h => by cases h; rfl
  | n :: r, us, h => by
    have h' : VReps β (.int k n :: r.flatMap (EK.int k).cells) us := h
    cases h' with
    | cons _ u _ s h1 h2 =>
      cases h1
      rw [ints_of_reps r s h2]; rfl

end Go.Ab

/-
  Operations that turn no memory. Part 4: conversions, loads, addresses, parts, slices.
-/
namespace Go.Ab
open Go.RowKit

section
variable {P : Program} {t : Nat} {i : TyI}

theorem TyOk.sizeOf (h : TyOk P t i) (w : World) : (sizeOf t).run P w = .ok i.size w := by
  obtain ⟨info, h1, h2, _, _⟩ := h.ex
  rw [run_sizeOf w h1]
  unfold Program.cellsOf
  rw [h1, ← h2]; rfl

theorem TyOk.info (h : TyOk P t i) : ∃ info, (∀ w, (typeInfo t).run P w = .ok info w) ∧ info.bytes = i.bytes ∧ info.size = i.size := by
  obtain ⟨info, h1, h2, h3, _⟩ := h.ex
  exact ⟨info, fun w => run_typeInfo w h1, h3, h2⟩

theorem TyOk.zero (h : TyOk P t i) : ∃ z, (∀ w, (zeroValue t).run P w = .ok z w) ∧ (∀ β, VReps β i.zero z.cells.toList) ∧ z.cells.size = i.size := by
  obtain ⟨info, h1, h2, h3, z, h4, h6, h5⟩ := h.ex
  refine ⟨z, fun w => ?_, h5, h6⟩
  unfold zeroValue
  simp [run_typeInfo w h1, h4]

theorem TyOk.under (h : TyOk P t i) : ∃ d, (∀ w, (underlying t).run P w = .ok d w) ∧ DOk i.d d ∧ P.underlying t = some d := by
  obtain ⟨d, h1, h2⟩ := h.und
  exact ⟨d, fun w => run_underlying h1 w, h2, h1⟩

theorem TyOk.isAgg (h : TyOk P t i) (w : World) : (isAgg t).run P w = .ok i.isAgg w := by
  obtain ⟨d, h1, h2, _⟩ := h.under
  unfold Go.isAgg TyI.isAgg
  rw [Sem.run_bind, h1]
  cases hd : i.d <;> rw [hd] at h2 <;> cases d <;> simp [DOk] at h2 <;> rfl

theorem dok_slc {e : Nat} {d : TypeDesc} (h : DOk (.slc e) d) : d = .slice e := by cases d <;> simp [DOk] at h; rw [h]
theorem dok_arr {n e : Nat} {d : TypeDesc} (h : DOk (.arr n e) d) : d = .array n e := by cases d <;> simp [DOk] at h; rw [h.1, h.2]
theorem dok_str {d : TypeDesc} (h : DOk .str d) : d = .string := by cases d <;> simp [DOk] at h; rfl
theorem dok_int {k : IntKind} {d : TypeDesc} (h : DOk (.int k) d) : d = .int k := by cases d <;> simp [DOk] at h; rw [h]
theorem dok_flt {k : FloatKind} {d : TypeDesc} (h : DOk (.flt k) d) : d = .float k := by cases d <;> simp [DOk] at h; rw [h]
theorem dok_cpx {k : FloatKind} {d : TypeDesc} (h : DOk (.cpx k) d) : d = .complex k := by cases d <;> simp [DOk] at h; rw [h]
theorem dok_struct {fs : List (Nat × Nat)} {d : TypeDesc} (h : DOk (.struct fs) d) : ∃ fs', d = .struct fs' ∧ fs = fs'.toList.map fun f => (f.type, f.offset) := by
  cases d <;> simp [DOk] at h; exact ⟨_, rfl, h⟩
end

section
variable {P : Program} {Γ : Ctx} {β : Bt} {g h : Heap} {w : World} {base : Nat}

theorem floatToInt_run {s : FloatKind} {d : IntKind} {x : Fl s} {a : Nat} (hx : x.Is a) {n : Int} (he : ftoInt x d = some n) : (Conv.floatToInt s a d).run P w = .ok (.int d n) w := by
  rw [← floatToIntVal_is hx] at he
  unfold floatToIntVal at he
  unfold Conv.floatToInt
  split at he
  · rename_i m e
    split at he
    · rename_i hb; cases he; simp [e, hb.1, hb.2]
    · cases he
  · cases he

theorem RunsTo.eq {α : Type} {P : Program} {s s' : Sem α} {w : World} {R : α → Prop} (e : s.run P w = s'.run P w) (h : RunsTo P s' w R) : RunsTo P s w R := by
  obtain ⟨u, n, e', hr⟩ := h
  exact ⟨u, n, e.trans e', hr⟩

theorem conv_ff {src dst : Nat} {ds : TypeDesc} {k : FloatKind} (us : ∀ w, (underlying src).run P w = .ok ds w) (ud : ∀ w, (underlying dst).run P w = .ok (.float k) w) (s : FloatKind) (b : Nat) (w : World) :
    (convert src dst (.float s b)).run P w = (Conv.floatToFloat s b k).run P w := by
  unfold convert
  cases ds <;> simp [us, ud]

theorem conv_cc {src dst : Nat} {ds : TypeDesc} {k : FloatKind} (us : ∀ w, (underlying src).run P w = .ok ds w) (ud : ∀ w, (underlying dst).run P w = .ok (.complex k) w) (s : FloatKind) (a b : Nat) (w : World) :
    (convert src dst (.complex s a b)).run P w = (Conv.complexToComplex s a b k).run P w := by
  unfold convert
  cases ds <;> simp [us, ud]

theorem conv_ii {src dst : Nat} {ds : TypeDesc} {k : IntKind} (us : ∀ w, (underlying src).run P w = .ok ds w) (ud : ∀ w, (underlying dst).run P w = .ok (.int k) w) (s : IntKind) (n : Int) (w : World) :
    (convert src dst (.int s n)).run P w = .ok (.int k (k.wrap n)) w := by
  unfold convert
  cases ds <;> simp [us, ud, Conv.intToInt]

theorem conv_if {src dst : Nat} {ds : TypeDesc} {k : FloatKind} (us : ∀ w, (underlying src).run P w = .ok ds w) (ud : ∀ w, (underlying dst).run P w = .ok (.float k) w) (s : IntKind) (n : Int) (w : World) :
    (convert src dst (.int s n)).run P w = .ok (.float k (k.nearest n)) w := by
  unfold convert
  cases ds <;> simp [us, ud, Conv.intToFloat]

theorem conv_fi {src dst : Nat} {ds : TypeDesc} {k : IntKind} (us : ∀ w, (underlying src).run P w = .ok ds w) (ud : ∀ w, (underlying dst).run P w = .ok (.int k) w) (s : FloatKind) (b : Nat) (w : World) :
    (convert src dst (.float s b)).run P w = (Conv.floatToInt s b k).run P w := by
  unfold convert
  cases ds <;> simp [us, ud]

theorem conv_ss {src dst : Nat} {ds : TypeDesc} (us : ∀ w, (underlying src).run P w = .ok ds w) (ud : ∀ w, (underlying dst).run P w = .ok .string w) (s : ByteArray) (w : World) :
    (convert src dst (.string s)).run P w = .ok (.string s) w := by
  unfold convert
  cases ds <;> simp [us, ud]

theorem conv_bs {src dst e : Nat} (us : ∀ w, (underlying src).run P w = .ok (.slice e) w) (ud : ∀ w, (underlying dst).run P w = .ok .string w) (ue : ∀ w, (underlying e).run P w = .ok (.int .u8) w) (a : Option Addr) (len cap : Nat) (w : World) :
    (convert src dst (.slice a len cap)).run P w = (Conv.bytesToString (.slice a len cap)).run P w := by
  unfold convert
  cases a <;> simp [us, ud, ue]

theorem convertA_run (hΓ : TysOk P Γ) (hs : Sub g h) (hr : Rep β h w base) (src dst : Nat) (a : AV) (x : Value) (hx : VRep β a x) (v : AV) (he : (convertA Γ g src dst a).den = some v) :
    RunsTo P (convert src dst x) w (VRep β v) := by
  unfold convertA at he
  split at he
  · rename_i ts td hts htd
    obtain ⟨ds, us, us', _⟩ := (hΓ.ty _ _ hts).under
    obtain ⟨dd, ud, ud', _⟩ := (hΓ.ty _ _ htd).under
    split at he
    · -- int of int
      rename_i k k' n hd
      cases hx
      rw [hd] at ud'
      obtain rfl := dok_int ud'
      rw [← den_ret he]
      exact RunsTo.of (conv_ii us ud _ _ _) (.int _ _)
    · rename_i k k' n hd
      cases hx
      rw [hd] at ud'
      obtain rfl := dok_flt ud'
      rw [← den_ret he]
      exact RunsTo.of (conv_if us ud _ _ _) (.flt _ _ _ (Fl.is_of (nearest_wf k n)))
    · rename_i k k' y hd
      cases hx with
      | flt _ _ b hb =>
      rw [hd] at ud'
      obtain rfl := dok_int ud'
      obtain ⟨n, h1, h2⟩ := den_bnd he
      rw [← den_ret h2]
      exact RunsTo.of ((conv_fi us ud _ _ _).trans (floatToInt_run hb h1)) (.int _ _)
    · -- widening
      rename_i y hd
      cases hx with
      | flt _ _ b hb =>
      rw [hd] at ud'
      obtain rfl := dok_flt ud'
      rw [← den_ret he]
      refine RunsTo.eq (conv_ff us ud _ _ _) ?_
      obtain ⟨u, n, e, r, rfl, hr'⟩ := fconv_run (P := P) (by decide) hb (fconv_fwide y) w
      exact ⟨_, n, e, .flt _ _ _ hr'⟩
    · rename_i y hd
      cases hx with
      | flt _ _ b hb =>
      rw [hd] at ud'
      obtain rfl := dok_flt ud'
      rw [← den_ret he]
      exact RunsTo.eq (conv_ff us ud _ _ _) (RunsTo.of (u := .float .f32 b) (by simp [Conv.floatToFloat]) (.flt _ _ _ hb))
    · rename_i y hd
      cases hx with
      | flt _ _ b hb =>
      rw [hd] at ud'
      obtain rfl := dok_flt ud'
      rw [← den_ret he]
      exact RunsTo.eq (conv_ff us ud _ _ _) (RunsTo.of (u := .float .f64 b) (by simp [Conv.floatToFloat]) (.flt _ _ _ hb))
    · rename_i y hd
      cases hx with
      | flt _ _ b hb =>
      rw [hd] at ud'
      obtain rfl := dok_flt ud'
      obtain ⟨z, h1, h2⟩ := den_bnd he
      rw [← den_ret h2]
      refine RunsTo.eq (conv_ff us ud _ _ _) ?_
      obtain ⟨u, n, e, r, rfl, hr'⟩ := fconv_run (P := P) (by decide) hb h1 w
      exact ⟨_, n, e, .flt _ _ _ hr'⟩
    · rename_i y z hd
      cases hx with
      | cpx _ _ _ b c hb hc =>
      rw [hd] at ud'
      obtain rfl := dok_cpx ud'
      rw [← den_ret he]
      refine RunsTo.eq (conv_cc us ud _ _ _ _) ?_
      unfold Conv.complexToComplex
      refine (fconv_run (P := P) (by decide) hb (fconv_fwide y) w).bind ?_
      rintro _ ⟨r, rfl, hr1⟩ n
      refine (fconv_run (P := P) (by decide) hc (fconv_fwide z) _).bind ?_
      rintro _ ⟨r', rfl, hr2⟩ n'
      exact RunsTo.of rfl (.cpx _ _ _ _ _ hr1 hr2)
    · rename_i y z hd
      cases hx with
      | cpx _ _ _ b c hb hc =>
      rw [hd] at ud'
      obtain rfl := dok_cpx ud'
      rw [← den_ret he]
      exact RunsTo.eq (conv_cc us ud _ _ _ _) (RunsTo.of (u := .complex .f32 b c) (by simp [Conv.complexToComplex, Conv.floatToFloat]) (.cpx _ _ _ _ _ hb hc))
    · rename_i y z hd
      cases hx with
      | cpx _ _ _ b c hb hc =>
      rw [hd] at ud'
      obtain rfl := dok_cpx ud'
      rw [← den_ret he]
      exact RunsTo.eq (conv_cc us ud _ _ _ _) (RunsTo.of (u := .complex .f64 b c) (by simp [Conv.complexToComplex, Conv.floatToFloat]) (.cpx _ _ _ _ _ hb hc))
    · rename_i y z hd
      cases hx with
      | cpx _ _ _ b c hb hc =>
      rw [hd] at ud'
      obtain rfl := dok_cpx ud'
      obtain ⟨z1, h1, h2⟩ := den_bnd he
      obtain ⟨z2, h3, h4⟩ := den_bnd h2
      rw [← den_ret h4]
      refine RunsTo.eq (conv_cc us ud _ _ _ _) ?_
      unfold Conv.complexToComplex
      refine (fconv_run (P := P) (by decide) hb h1 w).bind ?_
      rintro _ ⟨r, rfl, hr1⟩ n
      refine (fconv_run (P := P) (by decide) hc h3 _).bind ?_
      rintro _ ⟨r', rfl, hr2⟩ n'
      exact RunsTo.of rfl (.cpx _ _ _ _ _ hr1 hr2)
    · rename_i s hd
      cases hx
      rw [hd] at ud'
      obtain rfl := dok_str ud'
      rw [← den_ret he]
      exact RunsTo.of (conv_ss us ud _ _) (.str _)
    · -- string of bytes
      rename_i n off len hd
      rw [hd] at ud'
      obtain rfl := dok_str ud'
      split at he
      · rename_i e o l hts' hg
        rw [hts'] at us'
        obtain rfl := dok_slc us'
        split at he
        · rename_i hte
          obtain ⟨de, ue, ue', _⟩ := (hΓ.ty _ _ hte).under
          obtain rfl := dok_int ue'
          rw [← den_ret he]
          obtain ⟨ad, cap, rfl, hlen, hcells⟩ := slc_cells hr (hs _ _ hg) hx
          refine RunsTo.eq (conv_bs us ud ue _ _ _ _) ?_
          rcases hcells with h0 | ⟨blk, o', rfl, hc⟩
          · subst h0
            have hsub : sub l off 0 = [] := List.eq_nil_of_length_eq_zero hlen
            refine RunsTo.of (u := .string (bytesOf (sub l off 0))) ?_ (.str _)
            rw [hsub]
            cases ad with
            | none => simp [Conv.bytesToString, bytesOf]; rfl
            | some ad => simp [Conv.bytesToString, loadCells, loadCellsFrom, bytesOf]; rfl
          · obtain ⟨uss, h1, h2, h3⟩ := load_cells (P := P) hc
            have hl2 : ((sub l off len).flatMap (EK.int IntKind.u8).cells).length = len := by rw [flat_length, hlen]; simp [EK.size]
            rw [hl2] at h1 h3
            have h4 := ints_of_reps _ _ h2
            refine RunsTo.of (u := .string (bytesOf (sub l off len))) ?_ (.str _)
            simp only [Conv.bytesToString, Sem.run_bind, h3, Result.andThen_ok]
            simp only [Array.forIn_toList.symm]
            rw [bytesLoop (P := P) _ (fun _ _ => rfl) w (sub l off len) uss ByteArray.empty h4]
            simp [bytesOf]
        · exact (den_fail he).elim
      · exact (den_fail he).elim
    · exact (den_fail he).elim
  · exact (den_fail he).elim
end
end Go.Ab
