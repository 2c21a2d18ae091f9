/-
  Floats told up to a NaN's bits: 'Fl k', and that the model's operations are functions of them.
-/
import Derived.Laws.FloatArith
import Derived.Laws.FloatBits
namespace Go.Ab

/-- The NaN that stands for all. -/
def qn : FloatKind → Nat
  | .f32 => 2143289344
  | .f64 => 9221120237041090560

def nanB (k : FloatKind) (b : Nat) : Bool := (k.decode b).isNaN

def canon (k : FloatKind) (b : Nat) : Nat := bif nanB k b then qn k else b

theorem nan_qn (k : FloatKind) : nanB k (qn k) = true := by cases k <;> decide +kernel

theorem canon_canon (k : FloatKind) (b : Nat) : canon k (canon k b) = canon k b := by
  unfold canon
  cases h : nanB k b
  · simp [h]
  · simp [nan_qn]

theorem nan_canon (k : FloatKind) (b : Nat) : nanB k (canon k b) = nanB k b := by
  unfold canon
  cases h : nanB k b
  · simp [h]
  · simp [nan_qn]

theorem qn_lt (k : FloatKind) : qn k < 2 ^ k.format.width := by cases k <;> decide +kernel

theorem canon_lt {k : FloatKind} {b : Nat} (h : b < 2 ^ k.format.width) : canon k b < 2 ^ k.format.width := by
  unfold canon
  cases nanB k b
  · exact h
  · exact qn_lt k

structure Fl (k : FloatKind) where
  bits : Nat
  lt : bits < 2 ^ k.format.width
  can : canon k bits = bits

theorem Fl.ext {k : FloatKind} {x y : Fl k} (h : x.bits = y.bits) : x = y := by
  cases x; cases y; cases h; rfl

instance {k : FloatKind} : DecidableEq (Fl k) := fun x y =>
  if h : x.bits = y.bits then isTrue (Fl.ext h) else isFalse (fun e => h (by rw [e]))

def Fl.nan (k : FloatKind) : Fl k := ⟨qn k, qn_lt k, by unfold canon; rw [nan_qn]; rfl⟩

instance {k : FloatKind} : Inhabited (Fl k) := ⟨Fl.nan k⟩

def Fl.of (k : FloatKind) (b : Nat) : Fl k := if h : b < 2 ^ k.format.width then ⟨canon k b, canon_lt h, canon_canon k b⟩ else Fl.nan k

theorem Fl.of_bits {k : FloatKind} {b : Nat} (h : b < 2 ^ k.format.width) : (Fl.of k b).bits = canon k b := by
  unfold Fl.of; rw [dif_pos h]

theorem Fl.of_self {k : FloatKind} (x : Fl k) : Fl.of k x.bits = x := Fl.ext (by rw [Fl.of_bits x.lt, x.can])

/-- 'bits b' tells x. -/
def Fl.Is {k : FloatKind} (x : Fl k) (b : Nat) : Prop := b < 2 ^ k.format.width ∧ canon k b = x.bits

theorem Fl.is_of {k : FloatKind} {b : Nat} (h : b < 2 ^ k.format.width) : (Fl.of k b).Is b := ⟨h, (Fl.of_bits h).symm⟩

theorem Fl.is_self {k : FloatKind} (x : Fl k) : x.Is x.bits := ⟨x.lt, x.can⟩

theorem Fl.Is.eq {k : FloatKind} {x y : Fl k} {b : Nat} (h : x.Is b) (h' : y.Is b) : x = y := Fl.ext (h.2.symm.trans h'.2)

def Fl.isNaN {k : FloatKind} (x : Fl k) : Bool := nanB k x.bits

theorem Fl.Is.nan {k : FloatKind} {x : Fl k} {b : Nat} (h : x.Is b) : nanB k b = x.isNaN := by
  unfold Fl.isNaN; rw [← h.2, nan_canon]

/-- Either the bits are the number's own, or both are NaNs. -/
theorem Fl.Is.cases {k : FloatKind} {x : Fl k} {b : Nat} (h : x.Is b) : b = x.bits ∨ (nanB k b = true ∧ x = Fl.nan k) := by
  obtain ⟨_, h2⟩ := h
  unfold canon at h2
  cases hn : nanB k b
  · rw [hn] at h2; exact .inl h2
  · rw [hn] at h2; exact .inr ⟨rfl, Fl.ext h2.symm⟩

theorem Fl.is_nan {k : FloatKind} {b : Nat} (hl : b < 2 ^ k.format.width) (h : nanB k b = true) : (Fl.nan k).Is b :=
  ⟨hl, by unfold canon; rw [h]; rfl⟩

/-- What an operation of the model's core gives, NaNs as one. -/
def Fl.res (k : FloatKind) : Option Nat → Fl k
  | some r => Fl.of k r
  | none => Fl.nan k

/-- the bits that a drawn NaN has -/
theorem nan_drawn32 (t : Nat) : nanB .f32 ((t % 2) * 2 ^ 31 + 0x7f800000 + 1 + (t / 2) % (2 ^ 23 - 1)) = true ∧ (t % 2) * 2 ^ 31 + 0x7f800000 + 1 + (t / 2) % (2 ^ 23 - 1) < 2 ^ FloatKind.f32.format.width := by
  have h1 : t % 2 < 2 := Nat.mod_lt _ (by omega)
  have h2 : (t / 2) % (2 ^ 23 - 1) < 2 ^ 23 - 1 := Nat.mod_lt _ (by omega)
  have hw : FloatKind.f32.format.width = 32 := rfl
  refine ⟨?_, by rw [hw]; omega⟩
  have hs : Ieee.single.signWeight = 2 ^ 31 := rfl
  have hb : Ieee.single.binade = 2 ^ 23 := rfl
  have hi : Ieee.single.infRung = 0x7f800000 := rfl
  unfold nanB FloatKind.decode FloatKind.format Ieee.Format.read
  simp only [hs, hb, hi]
  have hm : ((t % 2) * 2 ^ 31 + 0x7f800000 + 1 + (t / 2) % (2 ^ 23 - 1)) % 2 ^ 31 = 0x7f800000 + 1 + (t / 2) % (2 ^ 23 - 1) := by omega
  rw [hm, if_neg (by omega), if_neg (by omega), if_neg (by omega)]
  rfl

theorem nan_drawn64 (t : Nat) : nanB .f64 ((t % 2) * 2 ^ 63 + 0x7ff0000000000000 + 1 + (t / 2) % (2 ^ 52 - 1)) = true ∧ (t % 2) * 2 ^ 63 + 0x7ff0000000000000 + 1 + (t / 2) % (2 ^ 52 - 1) < 2 ^ FloatKind.f64.format.width := by
  have h1 : t % 2 < 2 := Nat.mod_lt _ (by omega)
  have h2 : (t / 2) % (2 ^ 52 - 1) < 2 ^ 52 - 1 := Nat.mod_lt _ (by omega)
  have hw : FloatKind.f64.format.width = 64 := rfl
  refine ⟨?_, by rw [hw]; omega⟩
  have hs : Ieee.double.signWeight = 2 ^ 63 := rfl
  have hb : Ieee.double.binade = 2 ^ 52 := rfl
  have hi : Ieee.double.infRung = 0x7ff0000000000000 := rfl
  unfold nanB FloatKind.decode FloatKind.format Ieee.Format.read
  simp only [hs, hb, hi]
  have hm : ((t % 2) * 2 ^ 63 + 0x7ff0000000000000 + 1 + (t / 2) % (2 ^ 52 - 1)) % 2 ^ 63 = 0x7ff0000000000000 + 1 + (t / 2) % (2 ^ 52 - 1) := by omega
  rw [hm, if_neg (by omega), if_neg (by omega), if_neg (by omega)]
  rfl

/-! ### The operations -/

def fbin (op : BinOp) (k : FloatKind) (x y : Nat) : Option Nat := floatBits op k x y

theorem datum_nan {d : Ieee.Datum} (h : d.isNaN = true) : ∃ s t, d = .nan s t := by
  cases d <;> first | exact ⟨_, _, rfl⟩ | cases h

theorem floatBits_nan_left (op : BinOp) {k : FloatKind} {x : Nat} (y : Nat) (h : nanB k x = true) : floatBits op k x y = none := by
  obtain ⟨s, t, e⟩ := datum_nan h
  unfold FloatKind.decode at e
  unfold floatBits
  split <;> first | rfl | skip
  · unfold Ieee.Format.add; rw [e]; rfl
  · unfold Ieee.Format.sub; rw [e]; rfl
  · unfold Ieee.Format.mul; rw [e]; rfl
  · unfold Ieee.Format.div; rw [e]; rfl

theorem floatBits_nan_right (op : BinOp) {k : FloatKind} (x : Nat) {y : Nat} (h : nanB k y = true) : floatBits op k x y = none := by
  obtain ⟨s, t, e⟩ := datum_nan h
  unfold FloatKind.decode at e
  unfold floatBits
  split <;> first | rfl | skip
  · unfold Ieee.Format.add; rw [e]; cases k.format.read x <;> rfl
  · unfold Ieee.Format.sub; rw [e]; cases k.format.read x <;> rfl
  · unfold Ieee.Format.mul; rw [e]; cases k.format.read x <;> rfl
  · unfold Ieee.Format.div; rw [e]; cases k.format.read x <;> rfl

theorem floatBits_is (op : BinOp) {k : FloatKind} {x y : Fl k} {a b : Nat} (hx : x.Is a) (hy : y.Is b) : floatBits op k a b = floatBits op k x.bits y.bits := by
  rcases hx.cases with rfl | ⟨hn, rfl⟩
  · rcases hy.cases with rfl | ⟨hn, rfl⟩
    · rfl
    · rw [floatBits_nan_right op _ hn]; exact (floatBits_nan_right op _ (nan_qn k)).symm
  · rw [floatBits_nan_left op _ hn]; exact (floatBits_nan_left op _ (nan_qn k)).symm

def fadd {k : FloatKind} (x y : Fl k) : Fl k := Fl.res k (floatBits .add k x.bits y.bits)
def fsub {k : FloatKind} (x y : Fl k) : Fl k := Fl.res k (floatBits .sub k x.bits y.bits)
def fmul {k : FloatKind} (x y : Fl k) : Fl k := Fl.res k (floatBits .mul k x.bits y.bits)
def fdiv {k : FloatKind} (x y : Fl k) : Fl k := Fl.res k (floatBits .quo k x.bits y.bits)

/-- How two numbers stand to each other. -/
def ford {k : FloatKind} (x y : Fl k) : Option Ordering := k.format.order x.bits y.bits
def feq {k : FloatKind} (x y : Fl k) : Bool := ford x y == some .eq
def fne {k : FloatKind} (x y : Fl k) : Bool := ford x y != some .eq
def flt {k : FloatKind} (x y : Fl k) : Bool := ford x y == some .lt
def fle {k : FloatKind} (x y : Fl k) : Bool := ford x y == some .lt || ford x y == some .eq
def fgt {k : FloatKind} (x y : Fl k) : Bool := ford x y == some .gt
def fge {k : FloatKind} (x y : Fl k) : Bool := ford x y == some .gt || ford x y == some .eq

theorem order_nan_left {k : FloatKind} {x : Nat} (y : Nat) (h : nanB k x = true) : k.format.order x y = none := by
  obtain ⟨s, t, e⟩ := datum_nan h
  unfold FloatKind.decode at e
  unfold Ieee.Format.order; rw [e]; rfl

theorem order_nan_right {k : FloatKind} (x : Nat) {y : Nat} (h : nanB k y = true) : k.format.order x y = none := by
  obtain ⟨s, t, e⟩ := datum_nan h
  unfold FloatKind.decode at e
  unfold Ieee.Format.order; rw [e]; cases k.format.read x <;> rfl

theorem order_is {k : FloatKind} {x y : Fl k} {a b : Nat} (hx : x.Is a) (hy : y.Is b) : k.format.order a b = ford x y := by
  unfold ford
  rcases hx.cases with rfl | ⟨hn, rfl⟩
  · rcases hy.cases with rfl | ⟨hn, rfl⟩
    · rfl
    · rw [order_nan_right _ hn]; exact (order_nan_right _ (nan_qn k)).symm
  · rw [order_nan_left _ hn]; exact (order_nan_left _ (nan_qn k)).symm

/-- '-x'. -/
def fneg {k : FloatKind} (x : Fl k) : Fl k := Fl.of k (Op.negFloat k x.bits)

theorem negFloat_lt {k : FloatKind} {b : Nat} (h : b < 2 ^ k.format.width) : Op.negFloat k b < 2 ^ k.format.width := by
  unfold Op.negFloat
  refine Nat.xor_lt_two_pow h ?_
  cases k <;> decide

theorem read_neg (k : FloatKind) (b : Nat) (h : b < 2 ^ k.format.width) : nanB k (Op.negFloat k b) = nanB k b := by
  have key : ∀ e : Nat, ∀ c : Nat, c < 2 ^ (e + 1) → (c ^^^ 2 ^ e) % 2 ^ e = c % 2 ^ e := by
    intro e c _
    apply Nat.eq_of_testBit_eq
    intro i
    simp only [Nat.testBit_mod_two_pow, Nat.testBit_xor, Nat.testBit_two_pow]
    by_cases hi : i < e
    · have : ¬ (e = i) := by omega
      simp [hi, this]
    · simp [hi]
  have hm : Op.negFloat k b % k.format.signWeight = b % k.format.signWeight := by
    cases k
    · exact key 31 b h
    · exact key 63 b h
  unfold nanB FloatKind.decode Ieee.Format.read
  simp only [hm]
  split
  · rfl
  · split
    · rfl
    · split <;> rfl

theorem fneg_is {k : FloatKind} {x : Fl k} {a : Nat} (hx : x.Is a) : (fneg x).Is (Op.negFloat k a) := by
  refine ⟨negFloat_lt hx.1, ?_⟩
  unfold fneg
  rw [Fl.of_bits (negFloat_lt x.lt)]
  rcases hx.cases with rfl | ⟨hn, rfl⟩
  · rfl
  · unfold canon
    rw [read_neg k _ hx.1, read_neg k _ (Fl.nan k).lt, hn]
    show qn k = bif nanB k (qn k) then _ else _
    rw [nan_qn]; rfl

/-- an integer as a float -/
def fofInt (k : FloatKind) (n : Int) : Fl k := Fl.of k (k.nearest n)

theorem nearest_wf (k : FloatKind) (n : Int) : k.nearest n < 2 ^ k.format.width := by unfold FloatKind.nearest FloatKind.encode; exact k.format.write_lt _

/-- 'float32(x)' of a float64: none: a finite number too great: the language leaves it open. -/
def fconv (s d : FloatKind) (x : Fl s) : Option (Fl d) :=
  match s.decode x.bits with
  | .nan _ _ => some (Fl.nan d)
  | .infinity g => some (Fl.of d (d.encode (.infinity g)))
  | .number g m e => if (d.decode (d.encode (.number g m e))).isInfinity then none else some (Fl.of d (d.encode (.number g m e)))

/-- a float as an integer: none: open -/
def ftoInt {k : FloatKind} (x : Fl k) (d : IntKind) : Option Int := floatToIntVal k x.bits d

theorem floatToIntVal_is {k : FloatKind} {x : Fl k} {a : Nat} (hx : x.Is a) (d : IntKind) : floatToIntVal k a d = ftoInt x d := by
  unfold ftoInt
  rcases hx.cases with rfl | ⟨hn, rfl⟩
  · rfl
  · have h0 : ∀ b, nanB k b = true → floatToIntVal k b d = none := by
      intro b hb
      obtain ⟨s, t, e⟩ := datum_nan hb
      unfold floatToIntVal
      rw [e]; rfl
    rw [h0 _ hn]; exact (h0 _ (nan_qn k)).symm

theorem fconv_nan_nan {s : FloatKind} (d : FloatKind) : fconv s d (Fl.nan s) = some (Fl.nan d) := by
  obtain ⟨g, t, e⟩ := datum_nan (nan_qn s)
  unfold fconv
  show (match s.decode (qn s) with | .nan _ _ => _ | .infinity g => _ | .number g m e => _) = _
  rw [e]

end Go.Ab
