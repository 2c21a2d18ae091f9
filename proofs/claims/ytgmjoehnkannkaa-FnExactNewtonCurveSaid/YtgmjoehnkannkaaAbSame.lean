/-
  The same number: the ways in which programs ask for it.
-/
import Derived.Test.YtgmjoehnkannkaaAbOrd
namespace Go.Ab

def sgn {k : FloatKind} (x : Fl k) : Bool := x.bits / k.format.signWeight % 2 == 1

theorem nan_only {k : FloatKind} {x : Fl k} (h : x.isNaN = true) : x = Fl.nan k := by
  have h' : nanB k x.bits = true := h
  have hc := x.can
  unfold canon at hc
  rw [h'] at hc
  exact Fl.ext hc.symm

theorem feq_self {k : FloatKind} (x : Fl k) : feq x x = !x.isNaN := by
  have h : ford x x = (k.decode x.bits).order (k.decode x.bits) := rfl
  have hn : x.isNaN = (k.decode x.bits).isNaN := rfl
  unfold feq
  rw [h, order_self, hn]
  cases (k.decode x.bits).isNaN <;> rfl

theorem width_two (k : FloatKind) : 2 ^ k.format.width = 2 * k.format.signWeight := by cases k <;> decide

theorem bits_sgn {k : FloatKind} (x : Fl k) : x.bits = (if sgn x then k.format.signWeight else 0) + x.bits % k.format.signWeight := by
  have hw := width_two k
  have hl := x.lt
  rw [hw] at hl
  have hd := Nat.div_add_mod x.bits k.format.signWeight
  have hpos : 0 < k.format.signWeight := Nat.two_pow_pos _
  have h2 : x.bits / k.format.signWeight < 2 := by rw [Nat.div_lt_iff_lt_mul hpos]; omega
  unfold sgn
  generalize x.bits / k.format.signWeight = q at *
  have : q = 0 ∨ q = 1 := by omega
  rcases this with rfl | rfl
  · simp at hd ⊢; omega
  · simp at hd ⊢; omega

theorem eq_of_rung {k : FloatKind} {x y : Fl k} (hs : sgn x = sgn y) (hr : x.bits % k.format.signWeight = y.bits % k.format.signWeight) : x = y := by
  apply Fl.ext
  rw [bits_sgn x, bits_sgn y, hs, hr]

theorem read_inf {f : Ieee.Format} {b : Nat} {s : Bool} (h : f.read b = .infinity s) : s = (b / f.signWeight % 2 == 1) ∧ b % f.signWeight = f.infRung := by
  unfold Ieee.Format.read at h
  simp only at h
  split at h
  · cases h
  · split at h
    · cases h
    · split at h
      · rename_i hr; cases h; exact ⟨rfl, hr⟩
      · cases h

theorem same_of_feq {k : FloatKind} {x y : Fl k} (h : feq x y = true) (hs : sgn x = sgn y) : x = y := by
  cases hdx : k.decode x.bits with
  | nan s t =>
    have : ford x y = none := order_nan_left _ (by unfold nanB; rw [hdx]; rfl)
    unfold feq at h; rw [this] at h; cases h
  | infinity s =>
    cases hdy : k.decode y.bits with
    | nan t u =>
      have : ford x y = none := order_nan_right _ (by unfold nanB; rw [hdy]; rfl)
      unfold feq at h; rw [this] at h; cases h
    | infinity t => exact eq_of_rung hs ((read_inf hdx).2.trans (read_inf hdy).2.symm)
    | number t n j =>
      have : ford x y = (Ieee.Datum.infinity s).order (.number t n j) := by
        show (k.decode x.bits).order (k.decode y.bits) = _
        rw [hdx, hdy]
      unfold feq at h; rw [this] at h; cases s <;> cases h
  | number s m i =>
    have hfx : fin x = true := by unfold fin; rw [hdx]
    cases hdy : k.decode y.bits with
    | nan t u =>
      have : ford x y = none := order_nan_right _ (by unfold nanB; rw [hdy]; rfl)
      unfold feq at h; rw [this] at h; cases h
    | infinity t =>
      have : ford x y = (Ieee.Datum.number s m i).order (.infinity t) := by
        show (k.decode x.bits).order (k.decode y.bits) = _
        rw [hdx, hdy]
      unfold feq at h; rw [this] at h; cases t <;> cases h
    | number t n j =>
      have hfy : fin y = true := by unfold fin; rw [hdy]
      unfold feq at h
      rw [ford_rank hfx hfy] at h
      have hc : compare (rank x) (rank y) = .eq := by simpa using h
      have hr := Int.compare_eq_eq.1 hc
      refine eq_of_rung hs ?_
      have hsx : sgn x = true ↔ x.bits / k.format.signWeight % 2 = 1 := by unfold sgn; simp
      have hsy : sgn y = true ↔ y.bits / k.format.signWeight % 2 = 1 := by unfold sgn; simp
      unfold rank at hr
      by_cases h1 : x.bits / k.format.signWeight % 2 = 1
      · have h2 := hsy.1 (hs ▸ hsx.2 h1)
        rw [if_pos h1, if_pos h2] at hr; omega
      · have h2 : ¬ y.bits / k.format.signWeight % 2 = 1 := fun h => h1 (hsx.1 (hs ▸ hsy.2 h))
        rw [if_neg h1, if_neg h2] at hr; omega

theorem word_div (g : Bool) (r : Nat) (h : r < Ieee.double.signWeight) : (Ieee.double.word g r / Ieee.double.signWeight % 2 == 1) = g := by
  have hs : Ieee.double.signWeight = 2 ^ 63 := rfl
  unfold Ieee.Format.word
  rw [hs] at h ⊢
  cases g
  · have : r / 2 ^ 63 = 0 := Nat.div_eq_of_lt h
    simp [this]
  · have : (2 ^ 63 + r) / 2 ^ 63 = 1 := by omega
    simp [this]

theorem sgn_wide {x : Fl .f32} (hn : x.isNaN = false) : sgn (fwide x) = sgn x ∧ (fwide x).isNaN = false := by
  have hc := fconv_fwide x
  unfold fconv at hc
  have hne : (FloatKind.f32.decode x.bits).isNaN = false := hn
  have bits : ∀ y : Fl .f64, ∀ b, b < 2 ^ 64 → nanB .f64 b = false → y = Fl.of .f64 b → y.bits = b := by
    intro y b hb hn e
    subst e
    rw [Fl.of_bits hb]; unfold canon; rw [hn]; rfl
  split at hc
  · rename_i g t e
    rw [e] at hne; cases hne
  · rename_i g e
    have hy := (Option.some.inj hc).symm
    have hg := (read_inf (f := Ieee.single) e).1
    have hsx : sgn x = g := by rw [hg]; rfl
    rw [hsx, hy]
    cases g
    · exact ⟨by decide +kernel, by decide +kernel⟩
    · exact ⟨by decide +kernel, by decide +kernel⟩
  · rename_i g m p e
    split at hc
    · cases hc
    · rename_i hni
      have hy := (Option.some.inj hc).symm
      obtain ⟨hm, h1, h2⟩ := read32_number e
      obtain ⟨r, hr, hw⟩ := widen_rung g m p hm h1 h2
      have hw' : FloatKind.f64.encode (.number g m p) = Ieee.double.word g r := hw
      have hnn := (read_word g r hr).2
      have hn' : nanB .f64 (FloatKind.f64.encode (.number g m p)) = false := by rw [hw']; exact hnn
      have hb := bits _ (FloatKind.f64.encode (.number g m p)) (FloatKind.f64.format.write_lt _) hn' hy
      have hg := (read_val (f := Ieee.single) e).2.1
      have hsx : sgn x = g := by rw [hg]; rfl
      refine ⟨?_, ?_⟩
      · rw [hsx]
        show ((fwide x).bits / Ieee.double.signWeight % 2 == 1) = g
        rw [hb, hw']
        refine word_div g r (Nat.lt_of_lt_of_le hr (by decide))
      · show nanB .f64 (fwide x).bits = false
        rw [hb]; exact hn'

theorem wrap_sign (x : Fl .f64) : decide (IntKind.i64.wrap (x.bits : Int) < 0) = sgn x := by
  have hl : x.bits < 2 ^ 64 := x.lt
  have hs : FloatKind.f64.format.signWeight = 2 ^ 63 := rfl
  have hd := Nat.div_add_mod x.bits (2 ^ 63)
  have h2 : x.bits / 2 ^ 63 < 2 := by omega
  unfold sgn
  rw [hs]
  simp only [IntKind.wrap, IntKind.bits, IntKind.signed]
  have : x.bits / 2 ^ 63 = 0 ∨ x.bits / 2 ^ 63 = 1 := by omega
  rcases this with h | h
  · rw [h]
    simp
    omega
  · rw [h]
    simp
    omega
end Go.Ab
