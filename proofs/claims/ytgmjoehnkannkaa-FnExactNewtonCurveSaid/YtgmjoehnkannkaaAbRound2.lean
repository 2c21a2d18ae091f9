/-
  Rounding: bounds of sums, products, quotients and conversions; a float32 widened keeps its value.
-/
import Derived.Test.YtgmjoehnkannkaaAbRound
namespace Go.Ab
section
variable {k : FloatKind}

theorem signed_dv (s : Bool) (m : Nat) {i b : Int} (h : b ≤ i) : ((Ieee.signed s m (i - b).toNat : Int) : Rat) * 2 ^ b = dv (.number s m i) := by
  have e : ((m <<< (i - b).toNat : Nat) : Rat) * 2 ^ b = (m : Rat) * 2 ^ i := by
    rw [Nat.shiftLeft_eq, Rat.natCast_mul, Rat.mul_assoc, ← two_sub h]
  unfold Ieee.signed dv
  cases s with
  | false =>
    simp only [Bool.false_eq_true, if_false]
    rw [← e]; rfl
  | true =>
    simp only [if_true]
    rw [Rat.neg_mul, ← e, ← Rat.neg_mul, Rat.intCast_neg]; rfl

theorem total_dv (z : Bool) (t : Int) (b : Int) : dv (.number (if t = 0 then z else decide (t < 0)) t.natAbs b) = (t : Rat) * 2 ^ b := by
  unfold dv
  simp only
  congr 1
  by_cases h0 : t = 0
  · subst h0; cases z <;> simp
  · rw [if_neg h0]
    by_cases h : t < 0
    · rw [decide_eq_true h, if_pos rfl]
      have : ((t.natAbs : Nat) : Rat) = -(t : Rat) := by rw [← Rat.intCast_natCast, show ((t.natAbs : Nat) : Int) = -t by omega, Rat.intCast_neg]
      rw [this, Rat.neg_neg]
    · rw [decide_eq_false h]
      have : ((t.natAbs : Nat) : Rat) = (t : Rat) := by rw [← Rat.intCast_natCast, show ((t.natAbs : Nat) : Int) = t by omega]
      simp [this]

theorem dv_num (s : Bool) (m : Nat) (e : Int) : dv (.number s m e) = ng s ((m : Rat) * 2 ^ e) := by
  unfold dv ng; cases s <;> simp [Rat.neg_mul]

theorem ng_mul (s t : Bool) (a b : Rat) : ng (s ^^ t) (a * b) = ng s a * ng t b := by
  unfold ng; cases s <;> cases t <;> simp <;> grind

theorem ng_div (s t : Bool) (a b : Rat) (hb : b ≠ 0) : ng (s ^^ t) (a / b) = ng s a / ng t b := by
  unfold ng; cases s <;> cases t <;> simp <;> grind

theorem div_le_iff' {a b u : Rat} (hb : 0 < b) : a / b ≤ u ↔ a ≤ u * b := by
  constructor
  · intro h
    have := Rat.mul_le_mul_of_nonneg_right h (Rat.le_of_lt hb)
    rwa [Rat.div_mul_cancel (by grind)] at this
  · intro h
    refine Rat.le_of_mul_le_mul_right ?_ hb
    rwa [Rat.div_mul_cancel (by grind)]
theorem le_div_iff' {a b u : Rat} (hb : 0 < b) : u ≤ a / b ↔ u * b ≤ a := by
  constructor
  · intro h
    have := Rat.mul_le_mul_of_nonneg_right h (Rat.le_of_lt hb)
    rwa [Rat.div_mul_cancel (by grind)] at this
  · intro h
    refine Rat.le_of_mul_le_mul_right ?_ hb
    rwa [Rat.div_mul_cancel (by grind)]

theorem add_between {x y L U : Fl k} (hx : fin x = true) (hy : fin y = true) (hL : fin L = true) (hU : fin U = true) (h1 : val L ≤ val x + val y) (h2 : val x + val y ≤ val U) :
    fin (fadd x y) = true ∧ val L ≤ val (fadd x y) ∧ val (fadd x y) ≤ val U := by
  obtain ⟨s, m, i, dx⟩ := fin_num hx
  obtain ⟨t, n, j, dy⟩ := fin_num hy
  have e : fadd x y = Fl.res k (((k.format.read x.bits).sum (k.format.read y.bits)).map k.format.write) := rfl
  rw [e, dx, dy]
  have hd := total_dv (s && t) (Ieee.signed s m (i - min i j).toNat + Ieee.signed t n (j - min i j).toNat) (min i j)
  rw [Rat.intCast_add, Rat.add_mul, signed_dv s m (by omega), signed_dv t n (by omega), ← val_num dx, ← val_num dy] at hd
  exact between _ _ _ hL hU (by rw [hd]; exact h1) (by rw [hd]; exact h2)

theorem sub_between {x y L U : Fl k} (hx : fin x = true) (hy : fin y = true) (hL : fin L = true) (hU : fin U = true) (h1 : val L ≤ val x - val y) (h2 : val x - val y ≤ val U) :
    fin (fsub x y) = true ∧ val L ≤ val (fsub x y) ∧ val (fsub x y) ≤ val U := by
  obtain ⟨s, m, i, dx⟩ := fin_num hx
  obtain ⟨t, n, j, dy⟩ := fin_num hy
  have e : fsub x y = Fl.res k (((k.format.read x.bits).sum (k.format.read y.bits).opposite).map k.format.write) := rfl
  rw [e, dx, dy]
  have hn : dv (.number (!t) n j) = - dv (.number t n j) := by unfold dv; cases t <;> simp [Rat.neg_mul]
  have hd := total_dv (s && !t) (Ieee.signed s m (i - min i j).toNat + Ieee.signed (!t) n (j - min i j).toNat) (min i j)
  rw [Rat.intCast_add, Rat.add_mul, signed_dv s m (by omega), signed_dv (!t) n (by omega), hn, ← val_num dx, ← val_num dy, ← Rat.sub_eq_add_neg] at hd
  exact between _ _ _ hL hU (by rw [hd]; exact h1) (by rw [hd]; exact h2)

theorem mul_between {x y L U : Fl k} (hx : fin x = true) (hy : fin y = true) (hL : fin L = true) (hU : fin U = true) (h1 : val L ≤ val x * val y) (h2 : val x * val y ≤ val U) :
    fin (fmul x y) = true ∧ val L ≤ val (fmul x y) ∧ val (fmul x y) ≤ val U := by
  obtain ⟨s, m, i, dx⟩ := fin_num hx
  obtain ⟨t, n, j, dy⟩ := fin_num hy
  have e : fmul x y = Fl.res k (((k.format.read x.bits).product (k.format.read y.bits)).map k.format.write) := rfl
  rw [e, dx, dy]
  have hd : dv (.number (s ^^ t) (m * n) (i + j)) = val x * val y := by
    rw [val_num dx, val_num dy, dv_num, dv_num, dv_num, ← ng_mul, two_add, Rat.natCast_mul]
    congr 1; grind
  exact between _ _ _ hL hU (by rw [hd]; exact h1) (by rw [hd]; exact h2)

theorem mant {B : Nat} (hB : 0 < B) (r : Nat) : ∃ M g : Nat, unitOf B r = M * 2 ^ g ∧ M < 2 * B := by
  unfold unitOf
  split
  · exact ⟨r, 0, by simp, by omega⟩
  · exact ⟨_, _, rfl, by have := Nat.mod_lt r hB; omega⟩

section
variable {B D n : Nat} {c lp : Int} (hB : 0 < B) (hn : 0 < n) (hD : D = 0 ∨ n * (2 * B) ≤ D)
include hB hn hD

theorem quo_hi {r : Nat} (h : (D : Rat) * 2 ^ c ≤ (n : Rat) * ((unitOf B r : Rat) * 2 ^ lp)) : ((2 * (D / n) + (D % n != 0).toNat : Nat) : Rat) * 2 ^ (c - 1) ≤ (unitOf B r : Rat) * 2 ^ lp := by
  obtain ⟨M, g, hu, hM⟩ := mant hB r
  have hE : (unitOf B r : Rat) * 2 ^ lp = (M : Rat) * 2 ^ (g + lp) := by
    rw [hu, Rat.natCast_mul, ← two_nat, Rat.mul_assoc, ← two_add]
  rw [hE] at h ⊢
  rw [← Rat.mul_assoc, ← Rat.natCast_mul] at h
  rcases Int.lt_or_le ((g : Int) + lp) c with hc | hc
  · rw [scale_le (b := g + lp) (by omega) (by omega)] at h
    rcases hD with h0 | h0
    · subst h0
      simp
      exact Rat.mul_nonneg Rat.natCast_nonneg (Rat.le_of_lt (two_pos _))
    · exfalso
      have e1 : (g + lp - (g + lp)).toNat = 0 := by omega
      rw [e1] at h
      have e2 : (c - (g + lp)).toNat = (c - (g + lp)).toNat - 1 + 1 := by omega
      rw [e2, Nat.pow_succ] at h
      have h3 : 1 ≤ 2 ^ ((c - (g + lp)).toNat - 1) := Nat.two_pow_pos _
      have h4 : D * 2 ≤ D * (2 ^ ((c - (g + lp)).toNat - 1) * 2) := Nat.mul_le_mul_left _ (by omega)
      have h5 : n * M < n * (2 * B) := Nat.mul_lt_mul_of_pos_left hM hn
      omega
  · rw [scale_le (b := c) (by omega) (by omega)] at h
    rw [scale_le (b := c - 1) (by omega) (by omega)]
    have e1 : (c - c).toNat = 0 := by omega
    have e2 : (c - 1 - (c - 1)).toNat = 0 := by omega
    have e3 : ((g : Int) + lp - (c - 1)).toNat = (g + lp - c).toNat + 1 := by omega
    rw [e1, Nat.pow_zero, Nat.mul_one, Nat.mul_assoc] at h
    rw [e2, e3, Nat.pow_succ, Nat.pow_zero, Nat.mul_one, ← Nat.mul_assoc]
    generalize M * 2 ^ (g + lp - c).toNat = W at h
    have hdm := Nat.div_add_mod D n
    have hle : D / n ≤ W := Nat.div_le_of_le_mul h
    by_cases hr : D % n = 0
    · rw [hr]; simp; omega
    · have : D / n < W := by
        rcases Nat.lt_or_ge (D / n) W with h1 | h1
        · exact h1
        · exfalso
          have : D / n = W := by omega
          rw [this] at hdm; omega
      have hb := Bool.toNat_le (D % n != 0)
      omega

theorem quo_lo {r : Nat} (h : (n : Rat) * ((unitOf B r : Rat) * 2 ^ lp) ≤ (D : Rat) * 2 ^ c) : (unitOf B r : Rat) * 2 ^ lp ≤ ((2 * (D / n) + (D % n != 0).toNat : Nat) : Rat) * 2 ^ (c - 1) := by
  obtain ⟨M, g, hu, hM⟩ := mant hB r
  have hE : (unitOf B r : Rat) * 2 ^ lp = (M : Rat) * 2 ^ (g + lp) := by
    rw [hu, Rat.natCast_mul, ← two_nat, Rat.mul_assoc, ← two_add]
  rw [hE] at h ⊢
  rw [← Rat.mul_assoc, ← Rat.natCast_mul] at h
  rcases Int.lt_or_le ((g : Int) + lp) c with hc | hc
  · rcases hD with h0 | h0
    · subst h0
      rw [scale_le (b := g + lp) (by omega) (by omega)] at h
      rw [Nat.zero_mul] at h
      have : n * M = 0 := by
        rcases Nat.eq_zero_or_pos (n * M) with h1 | h1
        · exact h1
        · have := Nat.mul_pos h1 (Nat.two_pow_pos (g + lp - (g + lp)).toNat); omega
      have hM0 : M = 0 := by
        rcases Nat.mul_eq_zero.1 this with h1 | h1
        · omega
        · exact h1
      subst hM0; simp
    · rw [scale_le (b := g + lp) (by omega) (by omega)]
      have e1 : (g + lp - (g + lp)).toNat = 0 := by omega
      rw [e1, Nat.pow_zero, Nat.mul_one]
      have h1 : 2 * B ≤ D / n := (Nat.le_div_iff_mul_le hn).2 (by rw [Nat.mul_comm]; exact h0)
      have h2 : 1 ≤ 2 ^ (c - 1 - (g + lp)).toNat := Nat.two_pow_pos _
      have h3 : (2 * (D / n) + (D % n != 0).toNat) * 1 ≤ (2 * (D / n) + (D % n != 0).toNat) * 2 ^ (c - 1 - (g + lp)).toNat := Nat.mul_le_mul_left _ h2
      omega
  · rw [scale_le (b := c) (by omega) (by omega)] at h
    rw [scale_le (b := c - 1) (by omega) (by omega)]
    have e1 : (c - c).toNat = 0 := by omega
    have e2 : (c - 1 - (c - 1)).toNat = 0 := by omega
    have e3 : ((g : Int) + lp - (c - 1)).toNat = (g + lp - c).toNat + 1 := by omega
    rw [e1, Nat.pow_zero, Nat.mul_one, Nat.mul_assoc] at h
    rw [e2, e3, Nat.pow_succ, Nat.pow_zero, Nat.mul_one, ← Nat.mul_assoc]
    generalize M * 2 ^ (g + lp - c).toNat = W at h
    have : W ≤ D / n := (Nat.le_div_iff_mul_le hn).2 (by rw [Nat.mul_comm]; exact h)
    omega
end

theorem div_between {x y L U : Fl k} (hx : fin x = true) (hy : fin y = true) (hL : fin L = true) (hU : fin U = true) (hy0 : val y ≠ 0) (h1 : val L ≤ val x / val y) (h2 : val x / val y ≤ val U) :
    fin (fdiv x y) = true ∧ val L ≤ val (fdiv x y) ∧ val (fdiv x y) ≤ val U := by
  obtain ⟨hB, _, _, _⟩ := fmt_facts k
  have hBp : 0 < k.format.binade := by rw [← hB]; exact Nat.two_pow_pos _
  obtain ⟨s, m, i, dx⟩ := fin_num hx
  obtain ⟨t, n, j, dy⟩ := fin_num hy
  have e : fdiv x y = Fl.res k (((k.format.read x.bits).quotient (k.format.fractionBits + 2) (k.format.read y.bits)).map k.format.write) := rfl
  rw [val_num dx, val_num dy] at h1 h2
  rw [val_num dy] at hy0
  have hn0 : n ≠ 0 := by intro h; subst h; exact hy0 (by unfold dv; simp)
  have hnp : 0 < n := by omega
  rw [e, dx, dy]
  unfold Ieee.Datum.quotient
  simp only [if_neg hn0]
  generalize hmore : k.format.fractionBits + 2 + n.log2 - m.log2 = more
  have hD : (m <<< more) = 0 ∨ n * (2 * k.format.binade) ≤ (m <<< more) := by
    by_cases hm : m = 0
    · left; subst hm; simp
    · right
      have a1 : n < 2 ^ (n.log2 + 1) := Nat.lt_log2_self
      have a2 : 2 ^ m.log2 ≤ m := Nat.log2_self_le hm
      rw [Nat.shiftLeft_eq, ← hB]
      calc n * (2 * 2 ^ k.format.fractionBits) ≤ 2 ^ (n.log2 + 1) * (2 * 2 ^ k.format.fractionBits) := Nat.mul_le_mul_right _ (by omega)
        _ = 2 ^ (n.log2 + 1 + (k.format.fractionBits + 1)) := by rw [show 2 * 2 ^ k.format.fractionBits = 2 ^ (k.format.fractionBits + 1) by rw [Nat.pow_succ]; omega, ← Nat.pow_add]
        _ ≤ 2 ^ (m.log2 + more) := Nat.pow_le_pow_right (by omega) (by omega)
        _ = 2 ^ m.log2 * 2 ^ more := Nat.pow_add _ _ _
        _ ≤ m * 2 ^ more := Nat.mul_le_mul_right _ a2
  have hQ0 : (0 : Rat) < (n : Rat) * 2 ^ j := Rat.mul_pos (Rat.natCast_pos.2 hnp) (two_pos _)
  have hq : dv (.number s m i) / dv (.number t n j) = ng (s ^^ t) ((m : Rat) * 2 ^ i / ((n : Rat) * 2 ^ j)) := by
    rw [dv_num, dv_num, ← ng_div _ _ _ _ (by grind)]
  have hdv : dv (.number (s ^^ t) (2 * (m <<< more / n) + (m <<< more % n != 0).toNat) (i - j - more - 1)) = ng (s ^^ t) (((2 * (m <<< more / n) + (m <<< more % n != 0).toNat : Nat) : Rat) * 2 ^ (i - j - more - 1)) := by
    rw [dv_num]
  have hscale : ((m <<< more : Nat) : Rat) * 2 ^ (i - j - (more : Int)) * 2 ^ j = (m : Rat) * 2 ^ i := by
    rw [Nat.shiftLeft_eq, Rat.natCast_mul, ← two_nat, Rat.mul_assoc, Rat.mul_assoc, ← two_add, ← two_add]
    congr 2; omega
  have key_hi : ∀ u : Rat, (m : Rat) * 2 ^ i / ((n : Rat) * 2 ^ j) ≤ u → ((m <<< more : Nat) : Rat) * 2 ^ (i - j - (more : Int)) ≤ (n : Rat) * u := by
    intro u hu
    rw [div_le_iff' hQ0, ← hscale] at hu
    have : ((m <<< more : Nat) : Rat) * 2 ^ (i - j - (more : Int)) * 2 ^ j ≤ ((n : Rat) * u) * 2 ^ j := by grind
    exact Rat.le_of_mul_le_mul_right this (two_pos j)
  have key_lo : ∀ u : Rat, u ≤ (m : Rat) * 2 ^ i / ((n : Rat) * 2 ^ j) → (n : Rat) * u ≤ ((m <<< more : Nat) : Rat) * 2 ^ (i - j - (more : Int)) := by
    intro u hu
    rw [le_div_iff' hQ0, ← hscale] at hu
    have : ((n : Rat) * u) * 2 ^ j ≤ ((m <<< more : Nat) : Rat) * 2 ^ (i - j - (more : Int)) * 2 ^ j := by grind
    exact Rat.le_of_mul_le_mul_right this (two_pos j)
  have hQn : 0 ≤ (m : Rat) * 2 ^ i / ((n : Rat) * 2 ^ j) := by
    rw [le_div_iff' hQ0, Rat.zero_mul]
    exact Rat.mul_nonneg Rat.natCast_nonneg (Rat.le_of_lt (two_pos _))
  have hqn : (0 : Rat) ≤ ((2 * (m <<< more / n) + (m <<< more % n != 0).toNat : Nat) : Rat) * 2 ^ (i - j - (more : Int) - 1) := Rat.mul_nonneg Rat.natCast_nonneg (Rat.le_of_lt (two_pos _))
  rw [hq] at h1 h2
  have nL := au_nonneg L
  have nU := au_nonneg U
  have HI : ∀ z : Fl k, (m : Rat) * 2 ^ i / ((n : Rat) * 2 ^ j) ≤ au z → ((2 * (m <<< more / n) + (m <<< more % n != 0).toNat : Nat) : Rat) * 2 ^ (i - j - (more : Int) - 1) ≤ au z := fun z hz => quo_hi hBp hnp hD (key_hi _ hz)
  have LO : ∀ z : Fl k, au z ≤ (m : Rat) * 2 ^ i / ((n : Rat) * 2 ^ j) → au z ≤ ((2 * (m <<< more / n) + (m <<< more % n != 0).toNat : Nat) : Rat) * 2 ^ (i - j - (more : Int) - 1) := fun z hz => quo_lo hBp hnp hD (key_lo _ hz)
  generalize (m : Rat) * 2 ^ i / ((n : Rat) * 2 ^ j) = Q at *
  refine between _ _ _ hL hU ?_ ?_
  · rw [hdv, val_eq hL]
    rw [val_eq hL] at h1
    generalize ((2 * (m <<< more / n) + (m <<< more % n != 0).toNat : Nat) : Rat) * 2 ^ (i - j - (more : Int) - 1) = q at *
    have hi := HI L
    have lo := LO L
    clear HI LO key_hi key_lo hdv hq hscale hQ0 hD e h2
    revert hi lo h1 hqn hQn nL nU
    unfold ng
    generalize au L = l
    generalize au U = u
    cases (s ^^ t) <;> cases sg L <;> simp only [if_true, Bool.false_eq_true, if_false] <;> grind
  · rw [hdv, val_eq hU]
    rw [val_eq hU] at h2
    generalize ((2 * (m <<< more / n) + (m <<< more % n != 0).toNat : Nat) : Rat) * 2 ^ (i - j - (more : Int) - 1) = q at *
    have hi := HI U
    have lo := LO U
    clear HI LO key_hi key_lo hdv hq hscale hQ0 hD e h1
    revert hi lo h2 hqn hQn nL nU
    unfold ng
    generalize au L = l
    generalize au U = u
    cases (s ^^ t) <;> cases sg U <;> simp only [if_true, Bool.false_eq_true, if_false] <;> grind

/-- a conversion that fits -/
theorem conv_between {s d : FloatKind} {x : Fl s} {L U : Fl d} (hx : fin x = true) (hL : fin L = true) (hU : fin U = true) (h1 : val L ≤ val x) (h2 : val x ≤ val U) :
    ∃ y, fconv s d x = some y ∧ fin y = true ∧ val L ≤ val y ∧ val y ≤ val U := by
  obtain ⟨g, m, e, dx⟩ := fin_num hx
  rw [val_num dx] at h1 h2
  have b := between g m e hL hU h1 h2
  refine ⟨Fl.of d (d.format.write (.number g m e)), ?_, b⟩
  have hni : (d.decode (d.encode (.number g m e))).isInfinity = false := by
    have hlt : d.format.write (.number g m e) < 2 ^ d.format.width := d.format.write_lt _
    have hf := fin_iff.1 b.1
    have hbits : (Fl.of d (d.format.write (.number g m e))).bits = d.format.write (.number g m e) ∨ (Fl.of d (d.format.write (.number g m e))).bits = qn d := by
      rw [Fl.of_bits hlt]; unfold canon; cases nanB d (d.format.write (.number g m e)) <;> simp
    rcases hbits with h | h
    · rw [h] at hf
      rcases read_cases (k := d) (d.format.write (.number g m e)) with ⟨_, a, b, c, hd⟩ | ⟨h', _⟩
      · show (d.format.read (d.format.write (.number g m e))).isInfinity = false
        rw [hd]; rfl
      · exact absurd hf h'
    · rw [h] at hf
      exfalso
      cases d
      · exact absurd hf (by decide +kernel)
      · exact absurd hf (by decide +kernel)
  unfold fconv
  rw [show s.decode x.bits = _ from dx]
  simp only [hni]
  rfl
end

theorem fin_wide' {x : Fl .f32} (h : fin x = true) : fin (fwide x) = true := by rw [fin_wide]; exact h

/-- widened, a number keeps its value -/
theorem val_wide {x : Fl .f32} (hx : fin x = true) : val (fwide x) = val x := by
  obtain ⟨g, m, p, dx⟩ := fin_num hx
  obtain ⟨hm, h1, h2⟩ := read32_number (b := x.bits) dx
  have hc := fconv_fwide x
  unfold fconv at hc
  rw [show FloatKind.f32.decode x.bits = _ from dx] at hc
  simp only at hc
  split at hc
  · cases hc
  have hy : Fl.of .f64 (FloatKind.f64.format.write (.number g m p)) = fwide x := Option.some.inj hc
  rw [← hy, val_num dx]
  have hB : FloatKind.f64.format.binade = 2 ^ 52 := by decide +kernel
  have hI : FloatKind.f64.format.infRung = 2047 * 2 ^ 52 := by decide +kernel
  have hl : FloatKind.f64.format.leastPlace = -1074 := by decide +kernel
  have ex : ∃ r, r < FloatKind.f64.format.infRung ∧ (unitOf FloatKind.f64.format.binade r : Rat) * 2 ^ FloatKind.f64.format.leastPlace = (m : Rat) * 2 ^ p := by
    by_cases h0 : m = 0
    · subst h0
      refine ⟨0, by rw [hI]; decide, ?_⟩
      have : unitOf FloatKind.f64.format.binade 0 = 0 := by rw [hB]; unfold unitOf; rw [if_pos (by decide)]
      rw [this]; simp
    · have l1 : 2 ^ m.log2 ≤ m := Nat.log2_self_le h0
      have l2 : m < 2 ^ (m.log2 + 1) := Nat.lt_log2_self
      have l3 : m.log2 < 24 := (Nat.log2_lt h0).2 hm
      have c1 : 2 ^ 52 ≤ m * 2 ^ (52 - m.log2) := by
        calc 2 ^ 52 = 2 ^ m.log2 * 2 ^ (52 - m.log2) := by rw [← Nat.pow_add]; congr 1; omega
          _ ≤ m * 2 ^ (52 - m.log2) := Nat.mul_le_mul_right _ l1
      have c2 : m * 2 ^ (52 - m.log2) < 2 * 2 ^ 52 := by
        calc m * 2 ^ (52 - m.log2) < 2 ^ (m.log2 + 1) * 2 ^ (52 - m.log2) := Nat.mul_lt_mul_of_pos_right l2 (Nat.two_pow_pos _)
          _ = 2 * 2 ^ 52 := by rw [← Nat.pow_add, show m.log2 + 1 + (52 - m.log2) = 53 by omega]
      have hq : (p + 1074 - 52 + m.log2).toNat ≤ 1300 := by omega
      refine ⟨(p + 1074 - 52 + m.log2).toNat * 2 ^ 52 + m * 2 ^ (52 - m.log2), ?_, ?_⟩
      · rw [hI]
        have : (p + 1074 - 52 + m.log2).toNat * 2 ^ 52 ≤ 1300 * 2 ^ 52 := Nat.mul_le_mul_right _ hq
        omega
      · rw [hB, unit_q (by decide) (.inr c1) (by omega), hl, Rat.natCast_mul, Rat.natCast_mul, ← two_nat, ← two_nat, Rat.mul_assoc, Rat.mul_assoc, ← two_add, ← two_add]
        congr 2; omega
  obtain ⟨r, hr, hv⟩ := ex
  obtain ⟨R, w, r1, r2⟩ := write_rung (k := .f64) g m p (rl := r) (ru := r) (by rw [hv]; exact Rat.le_refl) (by rw [hv]; exact Rat.le_refl) hr
  have : R = r := by omega
  subst this
  rw [w]
  obtain ⟨f1, f2, f3⟩ := of_word (k := .f64) g hr
  rw [val_eq f1, f2]
  unfold au
  rw [f3, hv]
  unfold dv ng
  cases g <;> simp [Rat.neg_mul]
end Go.Ab
