/-
  Operations that turn no memory. Part 3: the unary operators and conversions.
-/
import Derived.Test.YtgmjoehnkannkaaAbBin
namespace Go.Ab
open Go.RowKit

theorem unOpA_run {P : Program} {β : Bt} (op : UnOp) (a : AV) (x : Value) (hx : VRep β a x) (v : AV) (w : World) (he : (unOpA op a).den = some v) : RunsTo P (Op.unary op x) w (VRep β v) := by
  unfold unOpA at he
  split at he
  · cases hx; rw [← den_ret he]; exact RunsTo.of (u := .int _ _) (by simp [Op.unary, Op.intArith]) (.int _ _)
  · cases hx with
    | flt k x b h => rw [← den_ret he]; exact RunsTo.of (u := .float _ _) (by simp [Op.unary]) (.flt _ _ _ (fneg_is h))
  · cases hx with
    | cpx k x y a b h h' => rw [← den_ret he]; exact RunsTo.of (u := .complex _ _ _) (by simp [Op.unary]) (.cpx _ _ _ _ _ (fneg_is h) (fneg_is h'))
  · cases hx; rw [← den_ret he]; exact RunsTo.of (u := .bool _) (by simp [Op.unary]) (.bs _)
  · cases hx; rw [← den_ret he]; exact RunsTo.of (u := .bool _) (by simp [Op.unary]) (.bl _)
  · exact (den_fail he).elim

theorem encode_lt (k : FloatKind) (d : Ieee.Datum) : k.encode d < 2 ^ k.format.width := k.format.write_lt d

/-- float32 ↔ float64, where the language fixes the result. -/
theorem fconv_run {P : Program} {s d : FloatKind} (hsd : s ≠ d) {x : Fl s} {a : Nat} (hx : x.Is a) {y : Fl d} (h : fconv s d x = some y) (w : World) :
    RunsTo P (Conv.floatToFloat s a d) w fun v => ∃ r, v = .float d r ∧ y.Is r := by
  have nanCase : ∀ b, nanB s b = true → y = Fl.nan d → RunsTo P (Conv.floatToFloat s b d) w fun v => ∃ r, v = .float d r ∧ y.Is r := by
    intro b hb hy
    obtain ⟨g, t, e⟩ := datum_nan hb
    have hq := (nanbits_is (k := d) (.nanConv d b) (.inr ⟨_, rfl⟩) (w.tape w.drawn (.nanConv d b)))
    refine ⟨.float d ((Question.nanConv d b).cut (w.tape w.drawn (.nanConv d b))), w.drawn + 1, ?_, _, rfl, by rw [hy]; exact hq.2⟩
    unfold Conv.floatToFloat
    rw [if_neg hsd, e]
    simp [hq.1]
  rcases hx.cases with rfl | ⟨hn, hxn⟩
  · unfold fconv at h
    split at h
    · rename_i g t e
      refine nanCase _ ?_ (by cases h; rfl)
      unfold nanB; rw [e]; rfl
    · rename_i g e
      cases h
      refine RunsTo.of (u := .float d (d.encode (.infinity g))) ?_ ⟨_, rfl, Fl.is_of (encode_lt _ _)⟩
      unfold Conv.floatToFloat
      rw [if_neg hsd, e]; rfl
    · rename_i g m t e
      split at h
      · cases h
      · rename_i hi
        cases h
        refine RunsTo.of (u := .float d (d.encode (.number g m t))) ?_ ⟨_, rfl, Fl.is_of (encode_lt _ _)⟩
        unfold Conv.floatToFloat
        rw [if_neg hsd, e]
        simp only [hi]; rfl
  · subst hxn
    rw [fconv_nan_nan] at h
    exact nanCase _ hn (by cases h; rfl)

theorem log2_lt {m n : Nat} (hm : m ≠ 0) (h : m < 2 ^ n) : m.log2 < n := (Nat.log2_lt hm).2 h

/-- A float32 number is a float64 number: what its bits are. -/
theorem widen_rung (neg : Bool) (m : Nat) (p : Int) (hm : m < 2 ^ 24) (h1 : -149 ≤ p) (h2 : p ≤ 104) :
    ∃ r, r < Ieee.double.infRung ∧ Ieee.double.write (.number neg m p) = Ieee.double.word neg r := by
  show ∃ r, r < Ieee.double.infRung ∧ Ieee.double.nearest neg m p = Ieee.double.word neg r
  unfold Ieee.Format.nearest
  by_cases h0 : m = 0
  · rw [if_pos h0]; exact ⟨0, by decide, rfl⟩
  · rw [if_neg h0]
    have hl := log2_lt h0 hm
    have hf : (Ieee.double.fractionBits : Int) = 52 := rfl
    have hp : Ieee.double.leastPlace = -1074 := by decide
    have hb : Ieee.double.binade = 2 ^ 52 := rfl
    have hi : Ieee.double.infRung = 2047 * 2 ^ 52 := rfl
    have hlast : max (p + (m.log2 : Int) - (Ieee.double.fractionBits : Int)) Ieee.double.leastPlace = p + (m.log2 : Int) - 52 := by
      rw [hf, hp]; omega
    simp only [hlast]
    have hd : (p + (m.log2 : Int) - 52 - p).toNat = 0 := by omega
    have hu : (p - (p + (m.log2 : Int) - 52)).toNat = 52 - m.log2 := by omega
    rw [hd, hu]
    have hcut : ∀ n, Ieee.Toward.even.cut neg n 0 = n := by
      intro n
      unfold Ieee.Toward.cut
      simp [Nat.mod_one]
    rw [hcut]
    have hk : m <<< (52 - m.log2) < 2 ^ 53 := by
      rw [Nat.shiftLeft_eq]
      have h3 : m < 2 ^ (m.log2 + 1) := Nat.lt_log2_self
      have h4 : 2 ^ (m.log2 + 1) * 2 ^ (52 - m.log2) = 2 ^ 53 := by rw [← Nat.pow_add]; congr 1; omega
      calc m * 2 ^ (52 - m.log2) < 2 ^ (m.log2 + 1) * 2 ^ (52 - m.log2) := Nat.mul_lt_mul_of_pos_right h3 (Nat.two_pow_pos _)
        _ = 2 ^ 53 := h4
    have hL : (p + (m.log2 : Int) - 52 - Ieee.double.leastPlace).toNat ≤ 1149 := by rw [hp]; omega
    revert hk hL
    generalize m <<< (52 - m.log2) = K
    generalize (p + (m.log2 : Int) - 52 - Ieee.double.leastPlace).toNat = L
    intro hk hL
    have h6 : L * Ieee.double.binade + K < Ieee.double.infRung := by
      rw [hi, hb]
      have h5 : L * 2 ^ 52 ≤ 1149 * 2 ^ 52 := Nat.mul_le_mul_right _ hL
      omega
    exact ⟨L * Ieee.double.binade + K, h6, congrArg (Ieee.double.word neg) (Nat.min_eq_left (Nat.le_of_lt h6))⟩

theorem read_word (neg : Bool) (r : Nat) (h : r < Ieee.double.infRung) : ((Ieee.double.read (Ieee.double.word neg r)).isInfinity = false) ∧ (Ieee.double.read (Ieee.double.word neg r)).isNaN = false := by
  have hs : Ieee.double.signWeight = 2 ^ 63 := rfl
  have hi : Ieee.double.infRung = 2047 * 2 ^ 52 := rfl
  have hm : (Ieee.double.word neg r) % Ieee.double.signWeight = r := by
    unfold Ieee.Format.word
    split <;> rw [hs] <;> rw [hi] at h <;> omega
  unfold Ieee.Format.read
  simp only [hm, if_pos h]
  split
  · exact ⟨rfl, rfl⟩
  · exact ⟨rfl, rfl⟩

theorem read32_number {b : Nat} {g : Bool} {m : Nat} {p : Int} (h : FloatKind.f32.decode b = .number g m p) : m < 2 ^ 24 ∧ -149 ≤ p ∧ p ≤ 104 := by
  have hs : Ieee.single.signWeight = 2 ^ 31 := rfl
  have hi : Ieee.single.infRung = 255 * 2 ^ 23 := rfl
  have hb : Ieee.single.binade = 2 ^ 23 := rfl
  have hl : Ieee.single.leastPlace = -149 := by decide
  unfold FloatKind.decode FloatKind.format Ieee.Format.read at h
  simp only [hs, hi, hb, hl] at h
  split at h
  · cases h; omega
  · split at h
    · cases h
      have := Nat.mod_lt (b % 2 ^ 31) (show 0 < 2 ^ 23 by omega)
      have h5 : b % 2 ^ 31 / 2 ^ 23 < 255 := by omega
      refine ⟨by omega, by omega, by omega⟩
    · split at h <;> cases h

theorem fconv_wide (x : Fl .f32) : ∃ y, fconv .f32 .f64 x = some y := by
  unfold fconv
  split
  · exact ⟨_, rfl⟩
  · exact ⟨_, rfl⟩
  · rename_i g m p e
    obtain ⟨hm, h1, h2⟩ := read32_number e
    obtain ⟨r, hr, hw⟩ := widen_rung g m p hm h1 h2
    have : (FloatKind.f64.decode (FloatKind.f64.encode (.number g m p))).isInfinity = false := by
      show (Ieee.double.read (Ieee.double.write (.number g m p))).isInfinity = false
      rw [hw]; exact (read_word g r hr).1
    rw [this]
    exact ⟨_, rfl⟩

theorem fconv_fwide (x : Fl .f32) : fconv .f32 .f64 x = some (fwide x) := by
  obtain ⟨y, hy⟩ := fconv_wide x
  unfold fwide; rw [hy]; rfl

/-- What 'string(b)' of bytes reads. -/
theorem bytesLoop {P : Program} (f : Value → ByteArray → Sem (ForInStep ByteArray)) (hf : ∀ n s, f (.int .u8 n) s = pure (ForInStep.yield (s.push (UInt8.ofNat n.toNat)))) (w : World) : ∀ (l : List Int) (vs : List Value) (s : ByteArray) (_ : vs = l.map fun n => Value.int .u8 n),
    (forIn (m := Sem) vs s f).run P w = .ok (⟨s.data ++ (l.map fun n => UInt8.ofNat n.toNat).toArray⟩) w := by
  intro l
  induction l with
  | nil => intro vs s h; subst h; simp
  | cons n r ih =>
    intro vs s h
    subst h
    rw [List.map_cons, List.forIn_cons, hf]
    simp only [Sem.run_bind, Sem.run_pure, Result.andThen_ok]
    rw [ih _ _ rfl]
    congr 1
    apply ByteArray.ext
    simp [ByteArray.push]

end Go.Ab
