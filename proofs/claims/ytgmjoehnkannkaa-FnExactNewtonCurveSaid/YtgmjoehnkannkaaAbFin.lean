/-
  Floats that are numbers: the ways in which programs ask for it.
-/
import Derived.Test.YtgmjoehnkannkaaAbMath
namespace Go.Ab

/-- a number, no infinity and no NaN -/
def fin {k : FloatKind} (x : Fl k) : Bool := match k.decode x.bits with | .number _ _ _ => true | _ => false

theorem sum_opposite (d : Ieee.Datum) : d.sum d.opposite = match d with | .number _ _ e => some (.number false 0 e) | _ => none := by
  cases d with
  | number s m e =>
    have h : Ieee.signed s m (e - min e e).toNat + Ieee.signed (!s) m (e - min e e).toNat = 0 := by
      cases s <;> simp [Ieee.signed] <;> omega
    simp only [Ieee.Datum.opposite, Ieee.Datum.sum, h, if_true]
    cases s <;> simp
  | infinity s => cases s <;> rfl
  | nan s t => rfl

theorem sub_self {k : FloatKind} (x : Fl k) : fsub x x = if fin x then Fl.of k 0 else Fl.nan k := by
  have h : floatBits .sub k x.bits x.bits = ((k.decode x.bits).sum (k.decode x.bits).opposite).map k.format.write := rfl
  unfold fsub fin
  rw [h, sum_opposite]
  cases k.decode x.bits with
  | number s m e =>
    have : k.format.write (.number false 0 e) = 0 := by cases k <;> rfl
    simp [Fl.res, this]
  | infinity s => rfl
  | nan s t => rfl

theorem feq_zero (k : FloatKind) : feq (Fl.of k 0) (Fl.of k 0) = true := by cases k <;> decide +kernel
theorem feq_nan (k : FloatKind) : feq (Fl.nan k) (Fl.of k 0) = false := by cases k <;> decide +kernel

theorem feq_sub_self {k : FloatKind} (x : Fl k) : feq (fsub x x) (Fl.of k 0) = fin x := by
  rw [sub_self]
  cases fin x
  · exact feq_nan k
  · exact feq_zero k

theorem order_self (d : Ieee.Datum) : d.order d = if d.isNaN then none else some .eq := by
  cases d with
  | number s m e => simp [Ieee.Datum.order, Ieee.Datum.isNaN, Std.ReflCmp.compare_self]
  | infinity s => simp [Ieee.Datum.order, Ieee.Datum.isNaN, Std.ReflCmp.compare_self]
  | nan s t => rfl

theorem fne_self {k : FloatKind} (x : Fl k) : fne x x = x.isNaN := by
  have h : ford x x = (k.decode x.bits).order (k.decode x.bits) := rfl
  have hn : x.isNaN = (k.decode x.bits).isNaN := rfl
  unfold fne
  rw [h, order_self, hn]
  cases (k.decode x.bits).isNaN <;> rfl

theorem fin_not_nan {k : FloatKind} {x : Fl k} (h : x.isNaN = true) : fin x = false := by
  have hn : x.isNaN = (k.decode x.bits).isNaN := rfl
  rw [hn] at h
  unfold fin
  cases hd : k.decode x.bits with
  | number s m e => rw [hd] at h; cases h
  | infinity s => rfl
  | nan s t => rfl

/-- a float64's bits without the sign -/
theorem andNot_abs (b : Nat) (h : b < 2 ^ 64) : ibits .andNot .u64 (b : Int) 9223372036854775808 = ((b % 2 ^ 63 : Nat) : Int) := by
  have key : ((BitVec.ofInt 64 (b : Int)) &&& ~~~(BitVec.ofInt 64 9223372036854775808)).toNat = b % 2 ^ 63 := by
    rw [BitVec.toNat_and]
    have h1 : (BitVec.ofInt 64 (b : Int)).toNat = b := by rw [BitVec.toNat_ofInt]; omega
    have h2 : (~~~(BitVec.ofInt 64 9223372036854775808)).toNat = 2 ^ 63 - 1 := by decide +kernel
    rw [h1, h2, Nat.and_two_pow_sub_one_eq_mod]
  show IntKind.u64.wrap (((BitVec.ofInt 64 (b : Int)) &&& ~~~(BitVec.ofInt 64 9223372036854775808)).toNat : Int) = _
  rw [key]
  have : b % 2 ^ 63 < 2 ^ 63 := Nat.mod_lt _ (by omega)
  simp only [IntKind.wrap, IntKind.bits, IntKind.signed]
  simp
  omega

theorem read_abs (b : Nat) : Ieee.double.read (b % 2 ^ 63) = match Ieee.double.read b with | .number _ m e => .number false m e | .infinity _ => .infinity false | .nan _ t => .nan false t := by
  have hs : Ieee.double.signWeight = 2 ^ 63 := rfl
  have h1 : b % 2 ^ 63 % 2 ^ 63 = b % 2 ^ 63 := Nat.mod_mod _ _
  have h2 : b % 2 ^ 63 / 2 ^ 63 = 0 := Nat.div_eq_of_lt (Nat.mod_lt _ (by omega))
  unfold Ieee.Format.read
  simp only [hs, h1, h2]
  split
  · rfl
  · split
    · rfl
    · split <;> rfl

theorem read64_number {b : Nat} {g : Bool} {m : Nat} {p : Int} (h : Ieee.double.read b = .number g m p) : m < 2 ^ 53 ∧ p ≤ 971 := by
  have hs : Ieee.double.signWeight = 2 ^ 63 := rfl
  have hi : Ieee.double.infRung = 2047 * 2 ^ 52 := rfl
  have hb : Ieee.double.binade = 2 ^ 52 := rfl
  have hl : Ieee.double.leastPlace = -1074 := by decide
  unfold Ieee.Format.read at h
  simp only [hs, hi, hb, hl] at h
  split at h
  · cases h; omega
  · split at h
    · cases h
      have := Nat.mod_lt (b % 2 ^ 63) (show 0 < 2 ^ 52 by omega)
      have h5 : b % 2 ^ 63 / 2 ^ 52 < 2047 := by omega
      refine ⟨by omega, by omega⟩
    · split at h <;> cases h

def max64 : Nat := 9218868437227405311
theorem read_max64 : Ieee.double.read max64 = .number false (2 ^ 53 - 1) 971 := by decide +kernel

theorem not_above_max {m : Nat} {p : Int} (hm : m < 2 ^ 53) (hp : p ≤ 971) : ((Ieee.Datum.number false m p).order (.number false (2 ^ 53 - 1) 971) == some .gt) = false := by
  have hb : min p 971 = p := by omega
  simp only [Ieee.Datum.order, Ieee.signed, Bool.false_eq_true, if_false, hb, Int.sub_self, Int.toNat_zero, Nat.shiftLeft_zero]
  have h1 : m ≤ (2 ^ 53 - 1) <<< (971 - p).toNat := by
    rw [Nat.shiftLeft_eq]
    have : 1 ≤ 2 ^ (971 - p).toNat := Nat.one_le_two_pow
    calc m ≤ (2 ^ 53 - 1) * 1 := by omega
      _ ≤ _ := Nat.mul_le_mul_left _ this
  have h2 : compare (m : Int) (((2 ^ 53 - 1) <<< (971 - p).toNat : Nat) : Int) ≠ .gt := by
    intro hc
    have := Int.compare_eq_gt.1 hc
    omega
  cases hc : compare (m : Int) (((2 ^ 53 - 1) <<< (971 - p).toNat : Nat) : Int) with
  | lt => rfl
  | eq => rfl
  | gt => exact absurd hc h2

/-- how the library asks: no NaN, and no more than the greatest number -/
theorem isInf_tree (w : Fl .f64) : (bif !fne w w then (fbits .f64 w).bind (fun r0 => (ofBits .f64 (ibits .andNot .u64 r0 9223372036854775808)).bind fun r1 => some (!fgt r1 (Fl.of .f64 9218868437227405311))) else some false) = some (fin w) := by
  rw [fne_self]
  cases hn : w.isNaN with
  | true => rw [fin_not_nan hn]; rfl
  | false =>
    have hnb : nanB .f64 w.bits = false := hn
    have hlt : w.bits < 2 ^ 64 := w.lt
    have hmod : w.bits % 2 ^ 63 < 2 ^ 64 := by omega
    have hnb2 : nanB .f64 (w.bits % 2 ^ 63) = false := by
      have : FloatKind.f64.decode (w.bits % 2 ^ 63) = Ieee.double.read (w.bits % 2 ^ 63) := rfl
      unfold nanB at hnb ⊢
      rw [this, read_abs]
      have h0 : (Ieee.double.read w.bits).isNaN = false := hnb
      cases hd : Ieee.double.read w.bits with
      | number s m e => rfl
      | infinity s => rfl
      | nan s t => rw [hd] at h0; cases h0
    have hof : ofBits .f64 ((w.bits % 2 ^ 63 : Nat) : Int) = some (Fl.of .f64 (w.bits % 2 ^ 63)) := by
      unfold ofBits
      rw [Int.toNat_natCast]
      exact if_pos hmod
    have hbits : (Fl.of .f64 (w.bits % 2 ^ 63)).bits = w.bits % 2 ^ 63 := by
      rw [Fl.of_bits hmod]; unfold canon; rw [hnb2]; rfl
    have hmax : (Fl.of .f64 9218868437227405311).bits = max64 := by decide +kernel
    unfold fbits
    rw [hnb]
    simp only [Bool.not_false, cond_true, cond_false, Option.bind_some, andNot_abs _ hlt, hof]
    have hford : ford (Fl.of .f64 (w.bits % 2 ^ 63)) (Fl.of .f64 9218868437227405311) = (Ieee.double.read (w.bits % 2 ^ 63)).order (.number false (2 ^ 53 - 1) 971) := by
      unfold ford
      rw [hbits, hmax]
      show (Ieee.double.read _).order (Ieee.double.read max64) = _
      rw [read_max64]
    unfold fgt fin
    rw [hford, read_abs]
    show _ = some (match Ieee.double.read w.bits with | .number _ _ _ => true | _ => false)
    cases hd : Ieee.double.read w.bits with
    | number s m e =>
      obtain ⟨h1, h2⟩ := read64_number hd
      rw [not_above_max h1 h2]; rfl
    | infinity s => rfl
    | nan s t =>
      have h0 : (Ieee.double.read w.bits).isNaN = false := hnb
      rw [hd] at h0; cases h0

theorem fin_wide (x : Fl .f32) : fin (fwide x) = fin x := by
  have hc := fconv_fwide x
  unfold fconv at hc
  have hdec : ∀ y : Fl .f64, ∀ b, b < 2 ^ 64 → nanB .f64 b = false → y = Fl.of .f64 b → FloatKind.f64.decode y.bits = FloatKind.f64.decode b := by
    intro y b hb hn e
    subst e
    rw [Fl.of_bits hb]; unfold canon; rw [hn]; rfl
  unfold fin
  split at hc
  · rename_i g t e
    rw [e]
    have := (Option.some.inj hc).symm
    rw [this]; rfl
  · rename_i g e
    rw [e]
    have := (Option.some.inj hc).symm
    rw [this]
    cases g <;> rfl
  · rename_i g m p e
    rw [e]
    split at hc
    · cases hc
    · rename_i hni
      have hy := (Option.some.inj hc).symm
      obtain ⟨hm, h1, h2⟩ := read32_number e
      obtain ⟨r, hr, hw⟩ := widen_rung g m p hm h1 h2
      have hw' : FloatKind.f64.encode (.number g m p) = Ieee.double.word g r := hw
      have hnn := (read_word g r hr).2
      have hn : nanB .f64 (FloatKind.f64.encode (.number g m p)) = false := by
        rw [hw']; exact hnn
      rw [hdec _ (FloatKind.f64.encode (.number g m p)) (FloatKind.f64.format.write_lt _) hn hy, hw']
      have hni' := (read_word g r hr).1
      show (match Ieee.double.read (Ieee.double.word g r) with | .number _ _ _ => true | _ => false) = true
      cases hd : Ieee.double.read (Ieee.double.word g r) with
      | number => rfl
      | infinity s => rw [hd] at hni'; cases hni'
      | nan s t => rw [hd] at hnn; cases hnn
end Go.Ab
