/-
  Rounding: a rounded result lies between any two numbers of the format that enclose the exact one.
-/
import Derived.Test.YtgmjoehnkannkaaAbOrd
namespace Go.Ab

theorem cut_le {s : Bool} {n K d : Nat} (h : n ≤ K * 2 ^ d) : Ieee.Toward.even.cut s n d ≤ K := by
  have hl : n < 2 ^ (n.log2 + 1) := Nat.lt_log2_self
  unfold Ieee.Toward.cut
  simp only [Nat.one_shiftLeft]
  by_cases hd : d ≤ n.log2 + 2
  · rw [Nat.min_eq_left hd]
    have hp : 0 < 2 ^ d := Nat.two_pow_pos d
    have h1 := Nat.div_add_mod n (2 ^ d)
    have h2 := Nat.mod_lt n hp
    have h3 : n / 2 ^ d ≤ K := Nat.div_le_of_le_mul (by rw [Nat.mul_comm]; exact h)
    rcases Nat.lt_or_ge (n / 2 ^ d) K with h4 | h4
    · have h5 := Bool.toNat_le (decide (2 ^ d < 2 * (n % 2 ^ d)) || (2 ^ d == 2 * (n % 2 ^ d) && n / 2 ^ d % 2 == 1))
      omega
    · have h5 : n / 2 ^ d = K := by omega
      have h6 : n % 2 ^ d = 0 := by
        rw [h5] at h1
        rw [Nat.mul_comm] at h1
        omega
      rw [h6, h5]
      have e1 : decide (2 ^ d < 2 * 0) = false := by simp
      have e2 : (2 ^ d == 2 * 0) = false := by simp
      rw [e1, e2]; simp
  · rw [Nat.min_eq_right (by omega)]
    have e0 : 2 ^ (n.log2 + 2) = 2 * 2 ^ (n.log2 + 1) := by rw [Nat.pow_succ 2 (n.log2 + 1)]; omega
    rw [Nat.div_eq_of_lt (by omega), Nat.mod_eq_of_lt (by omega)]
    have e1 : decide (2 ^ (n.log2 + 2) < 2 * n) = false := by simp; omega
    have e2 : (2 ^ (n.log2 + 2) == 2 * n) = false := by simp; omega
    rw [e1, e2]; simp

theorem le_cut {s : Bool} {n K d : Nat} (h : K * 2 ^ d ≤ n) : K ≤ Ieee.Toward.even.cut s n d := by
  have hl : n < 2 ^ (n.log2 + 1) := Nat.lt_log2_self
  unfold Ieee.Toward.cut
  simp only [Nat.one_shiftLeft]
  by_cases hd : d ≤ n.log2 + 2
  · rw [Nat.min_eq_left hd]
    have hp : 0 < 2 ^ d := Nat.two_pow_pos d
    have h3 : K ≤ n / 2 ^ d := (Nat.le_div_iff_mul_le hp).2 h
    omega
  · have h1 : 2 ^ (n.log2 + 1) ≤ 2 ^ d := Nat.pow_le_pow_right (by omega) (by omega)
    have h2 : K = 0 := by
      rcases Nat.eq_zero_or_pos K with h | h
      · exact h
      · have : 1 * 2 ^ d ≤ K * 2 ^ d := Nat.mul_le_mul_right _ h
        omega
    rw [h2]; exact Nat.zero_le _

theorem unit_q {B q c : Nat} (hB : 0 < B) (h1 : q = 0 ∨ B ≤ c) (h2 : c ≤ 2 * B) : unitOf B (q * B + c) = c * 2 ^ q := by
  unfold unitOf
  by_cases h : c < B
  · have : q = 0 := by omega
    subst this
    rw [if_pos (by omega)]; simp
  · have hle : ¬ (q * B + c < B) := by
      have : 0 ≤ q * B := Nat.zero_le _
      omega
    rw [if_neg hle]
    by_cases h3 : c = 2 * B
    · subst h3
      have e : q * B + 2 * B = B * (q + 2) := by rw [Nat.mul_add, Nat.mul_comm q B]; omega
      rw [e, Nat.mul_mod_right, Nat.mul_div_cancel_left _ hB, show q + 2 - 1 = q + 1 by omega, Nat.pow_succ]
      rw [Nat.add_zero, Nat.mul_comm (2 ^ q) 2, ← Nat.mul_assoc, Nat.mul_comm B 2]
    · have e : q * B + c = B * (q + 1) + (c - B) := by rw [Nat.mul_add, Nat.mul_comm q B]; omega
      have hlt : c - B < B := by omega
      rw [e, Nat.mul_add_mod, Nat.mod_eq_of_lt hlt, Nat.mul_add_div hB, Nat.div_eq_of_lt hlt, show q + 1 + 0 - 1 = q by omega, show B + (c - B) = c by omega]

theorem unit_le {B : Nat} (hB : 0 < B) {r s : Nat} (h : r ≤ s) : unitOf B r ≤ unitOf B s := by
  rcases Nat.lt_or_ge r s with h1 | h1
  · exact Nat.le_of_lt (unit_lt hB h1)
  · have : r = s := by omega
    subst this; exact Nat.le_refl _

/-- where the kept digits are: 'mag * 2 ^ P' to a last place 'La' -/
def keptN (s : Bool) (mag P La : Nat) : Nat := Ieee.Toward.even.cut s (mag <<< (P - La)) (La - P)

theorem kept_le {s : Bool} {mag P La K : Nat} (h : mag * 2 ^ P ≤ K * 2 ^ La) : keptN s mag P La ≤ K := by
  apply cut_le
  rw [Nat.shiftLeft_eq]
  rcases Nat.le_total P La with h1 | h1
  · rw [show P - La = 0 by omega, Nat.pow_zero, Nat.mul_one]
    rw [show La = (La - P) + P by omega, Nat.pow_add, ← Nat.mul_assoc] at h
    exact Nat.le_of_mul_le_mul_right h (Nat.two_pow_pos P)
  · rw [show La - P = 0 by omega, Nat.pow_zero, Nat.mul_one]
    rw [show P = (P - La) + La by omega, Nat.pow_add, ← Nat.mul_assoc] at h
    exact Nat.le_of_mul_le_mul_right h (Nat.two_pow_pos La)

theorem le_kept {s : Bool} {mag P La K : Nat} (h : K * 2 ^ La ≤ mag * 2 ^ P) : K ≤ keptN s mag P La := by
  apply le_cut
  rw [Nat.shiftLeft_eq]
  rcases Nat.le_total P La with h1 | h1
  · rw [show P - La = 0 by omega, Nat.pow_zero, Nat.mul_one]
    rw [show La = (La - P) + P by omega, Nat.pow_add, ← Nat.mul_assoc] at h
    exact Nat.le_of_mul_le_mul_right h (Nat.two_pow_pos P)
  · rw [show La - P = 0 by omega, Nat.pow_zero, Nat.mul_one]
    rw [show P = (P - La) + La by omega, Nat.pow_add, ← Nat.mul_assoc] at h
    exact Nat.le_of_mul_le_mul_right h (Nat.two_pow_pos La)

section
variable {s : Bool} {fb mag P Lp La : Nat} (hm : mag ≠ 0) (hLa : La = max (P + mag.log2 - fb) Lp)
include hm hLa

omit hm in
theorem kept_hi : mag * 2 ^ P < 2 * 2 ^ fb * 2 ^ La := by
  have hl : mag < 2 ^ (mag.log2 + 1) := Nat.lt_log2_self
  have h1 : mag * 2 ^ P < 2 ^ (mag.log2 + 1) * 2 ^ P := Nat.mul_lt_mul_of_pos_right hl (Nat.two_pow_pos P)
  have h2 : 2 ^ (mag.log2 + 1) * 2 ^ P ≤ 2 * 2 ^ fb * 2 ^ La := by
    rw [← Nat.pow_add, show 2 * 2 ^ fb = 2 ^ (fb + 1) by rw [Nat.pow_succ]; omega, ← Nat.pow_add]
    exact Nat.pow_le_pow_right (by omega) (by omega)
  omega

theorem kept_lo (h : Lp < La) : 2 ^ fb * 2 ^ La ≤ mag * 2 ^ P := by
  have hl : 2 ^ mag.log2 ≤ mag := Nat.log2_self_le hm
  have h1 : 2 ^ mag.log2 * 2 ^ P ≤ mag * 2 ^ P := Nat.mul_le_mul_right _ hl
  have h2 : 2 ^ fb * 2 ^ La ≤ 2 ^ mag.log2 * 2 ^ P := by
    rw [← Nat.pow_add, ← Nat.pow_add]
    exact Nat.pow_le_pow_right (by omega) (by omega)
  omega

theorem kept_shape : (La - Lp = 0 ∨ 2 ^ fb ≤ keptN s mag P La) ∧ keptN s mag P La ≤ 2 * 2 ^ fb := by
  refine ⟨?_, kept_le (Nat.le_of_lt (kept_hi hLa))⟩
  rcases Nat.lt_or_ge Lp La with h | h
  · exact .inr (le_kept (kept_lo hm hLa h))
  · exact .inl (by omega)

theorem rung_hi {r : Nat} (h : mag * 2 ^ P ≤ unitOf (2 ^ fb) r * 2 ^ Lp) : (La - Lp) * 2 ^ fb + keptN s mag P La ≤ r := by
  have hB : 0 < 2 ^ fb := Nat.two_pow_pos fb
  obtain ⟨h1, h2⟩ := kept_shape (s := s) hm hLa
  have hLL : Lp ≤ La := by omega
  have eL : 2 ^ La = 2 ^ (La - Lp) * 2 ^ Lp := by rw [← Nat.pow_add]; congr 1; omega
  rcases Nat.lt_or_ge r ((La - Lp) * 2 ^ fb + keptN s mag P La) with hlt | hge
  · exfalso
    by_cases hc : Lp < La ∧ keptN s mag P La = 2 ^ fb
    · have h3 := unit_lt hB hlt
      rw [unit_q hB h1 h2, hc.2] at h3
      have h4 := kept_lo hm hLa hc.1
      rw [eL, ← Nat.mul_assoc] at h4
      have h5 : unitOf (2 ^ fb) r * 2 ^ Lp < 2 ^ fb * 2 ^ (La - Lp) * 2 ^ Lp := Nat.mul_lt_mul_of_pos_right h3 (Nat.two_pow_pos Lp)
      omega
    · have hk : 1 ≤ keptN s mag P La := by
        rcases h1 with h1 | h1
        · rw [h1] at hlt; omega
        · omega
      have e0 : (La - Lp) * 2 ^ fb + keptN s mag P La - 1 = (La - Lp) * 2 ^ fb + (keptN s mag P La - 1) := by omega
      have h3 : unitOf (2 ^ fb) r ≤ unitOf (2 ^ fb) ((La - Lp) * 2 ^ fb + (keptN s mag P La - 1)) := unit_le hB (by omega)
      rw [unit_q hB (by omega) (by omega)] at h3
      have h4 : unitOf (2 ^ fb) r * 2 ^ Lp ≤ (keptN s mag P La - 1) * 2 ^ (La - Lp) * 2 ^ Lp := Nat.mul_le_mul_right _ h3
      rw [Nat.mul_assoc, ← eL] at h4
      have h5 := kept_le (s := s) (Nat.le_trans h h4)
      omega
  · exact hge

theorem rung_lo {r : Nat} (h : unitOf (2 ^ fb) r * 2 ^ Lp ≤ mag * 2 ^ P) : r ≤ (La - Lp) * 2 ^ fb + keptN s mag P La := by
  have hB : 0 < 2 ^ fb := Nat.two_pow_pos fb
  obtain ⟨h1, h2⟩ := kept_shape (s := s) hm hLa
  have hLL : Lp ≤ La := by omega
  have eL : 2 ^ La = 2 ^ (La - Lp) * 2 ^ Lp := by rw [← Nat.pow_add]; congr 1; omega
  rcases Nat.lt_or_ge ((La - Lp) * 2 ^ fb + keptN s mag P La) r with hlt | hge
  · exfalso
    by_cases hc : keptN s mag P La = 2 * 2 ^ fb
    · have h3 := unit_lt hB hlt
      rw [unit_q hB h1 h2, hc] at h3
      have h4 := kept_hi hLa
      rw [eL, ← Nat.mul_assoc] at h4
      have h5 : 2 * 2 ^ fb * 2 ^ (La - Lp) * 2 ^ Lp < unitOf (2 ^ fb) r * 2 ^ Lp := Nat.mul_lt_mul_of_pos_right h3 (Nat.two_pow_pos Lp)
      omega
    · have h3 : unitOf (2 ^ fb) ((La - Lp) * 2 ^ fb + (keptN s mag P La + 1)) ≤ unitOf (2 ^ fb) r := unit_le hB (by omega)
      rw [unit_q hB (by omega) (by omega)] at h3
      have h4 : (keptN s mag P La + 1) * 2 ^ (La - Lp) * 2 ^ Lp ≤ unitOf (2 ^ fb) r * 2 ^ Lp := Nat.mul_le_mul_right _ h3
      rw [Nat.mul_assoc, ← eL] at h4
      have h5 := le_kept (s := s) (Nat.le_trans h4 h)
      omega
  · exact hge
end

/-! ### Values -/

/-- the value of a datum, 0 for what is no number -/
def dv : Ieee.Datum → Rat
  | .number s m e => (if s then -(m : Rat) else (m : Rat)) * (2 : Rat) ^ e
  | _ => 0

def val {k : FloatKind} (x : Fl k) : Rat := dv (k.decode x.bits)

theorem two_pos (e : Int) : (0 : Rat) < 2 ^ e := Rat.zpow_pos (by decide)
theorem two_add (a b : Int) : (2 : Rat) ^ (a + b) = 2 ^ a * 2 ^ b := Rat.zpow_add (by decide) a b
theorem two_nat (n : Nat) : (2 : Rat) ^ (n : Int) = ((2 ^ n : Nat) : Rat) := by
  rw [Rat.zpow_natCast]; simp

theorem two_sub {a b : Int} (h : a ≤ b) : (2 : Rat) ^ b = ((2 ^ (b - a).toNat : Nat) : Rat) * 2 ^ a := by
  rw [← two_nat, ← two_add]; congr 1; omega

theorem scale_le {m n : Nat} {i j b : Int} (hi : b ≤ i) (hj : b ≤ j) : (m : Rat) * 2 ^ i ≤ (n : Rat) * 2 ^ j ↔ m * 2 ^ (i - b).toNat ≤ n * 2 ^ (j - b).toNat := by
  rw [two_sub hi, two_sub hj, ← Rat.mul_assoc, ← Rat.mul_assoc, ← Rat.natCast_mul, ← Rat.natCast_mul]
  constructor
  · intro h
    exact Rat.natCast_le_natCast.1 (Rat.le_of_mul_le_mul_right h (two_pos b))
  · intro h
    exact Rat.mul_le_mul_of_nonneg_right (Rat.natCast_le_natCast.2 h) (Rat.le_of_lt (two_pos b))

def ng (s : Bool) (q : Rat) : Rat := if s then -q else q

section
variable (k : FloatKind)
theorem fmt_facts : 2 ^ k.format.fractionBits = k.format.binade ∧ k.format.binade ≤ k.format.infRung ∧ k.format.infRung < k.format.signWeight ∧ 2 * k.format.signWeight = 2 ^ k.format.width := by
  cases k <;> decide +kernel

variable {k}
theorem word_facts (s : Bool) {r : Nat} (h : r ≤ k.format.infRung) : k.format.word s r % k.format.signWeight = r ∧ (k.format.word s r / k.format.signWeight % 2 == 1) = s ∧ k.format.word s r < 2 ^ k.format.width := by
  obtain ⟨_, _, h3, h4⟩ := fmt_facts k
  have hr : r < k.format.signWeight := by omega
  cases s with
  | false =>
    show r % _ = r ∧ (r / _ % 2 == 1) = false ∧ r < _
    rw [Nat.mod_eq_of_lt hr, Nat.div_eq_of_lt hr]
    exact ⟨rfl, rfl, by omega⟩
  | true =>
    show (k.format.signWeight + r) % _ = r ∧ ((k.format.signWeight + r) / _ % 2 == 1) = true ∧ (k.format.signWeight + r) < _
    rw [Nat.add_mod_left, Nat.mod_eq_of_lt hr, Nat.add_div_left _ (by omega), Nat.div_eq_of_lt hr]
    exact ⟨rfl, rfl, by omega⟩

theorem read_cases (b : Nat) : (b % k.format.signWeight < k.format.infRung ∧ ∃ s m e, k.format.read b = .number s m e) ∨ (¬ b % k.format.signWeight < k.format.infRung ∧ ∀ s m e, k.format.read b ≠ .number s m e) := by
  obtain ⟨_, h2, _, _⟩ := fmt_facts k
  unfold Ieee.Format.read
  simp only
  split
  · exact .inl ⟨by omega, _, _, _, rfl⟩
  · split
    · rename_i h; exact .inl ⟨h, _, _, _, rfl⟩
    · rename_i h
      refine .inr ⟨h, fun s m e => ?_⟩
      split <;> simp

theorem fin_iff {x : Fl k} : fin x = true ↔ x.bits % k.format.signWeight < k.format.infRung := by
  unfold fin
  rcases read_cases (k := k) x.bits with ⟨h, s, m, e, hd⟩ | ⟨h, hd⟩
  · rw [show k.decode x.bits = _ from hd]; simp [h]
  · constructor
    · intro h'
      cases hx : k.decode x.bits with
      | number s m e => exact absurd hx (hd s m e)
      | infinity => rw [hx] at h'; cases h'
      | nan => rw [hx] at h'; cases h'
    · intro h'; exact absurd h' h

theorem fin_num {x : Fl k} (h : fin x = true) : ∃ s m e, k.format.read x.bits = .number s m e := by
  rcases read_cases (k := k) x.bits with ⟨_, h'⟩ | ⟨h', _⟩
  · exact h'
  · exact absurd (fin_iff.1 h) h'

/-- the magnitude of a number -/
def au (x : Fl k) : Rat := (unitOf k.format.binade (x.bits % k.format.signWeight) : Rat) * 2 ^ k.format.leastPlace
def sg (x : Fl k) : Bool := x.bits / k.format.signWeight % 2 == 1

theorem au_nonneg (x : Fl k) : 0 ≤ au x := Rat.mul_nonneg (Rat.natCast_nonneg) (Rat.le_of_lt (two_pos _))

theorem dv_read {b : Nat} {s : Bool} {m : Nat} {e : Int} (h : k.format.read b = .number s m e) : dv (.number s m e) = ng (b / k.format.signWeight % 2 == 1) ((unitOf k.format.binade (b % k.format.signWeight) : Rat) * 2 ^ k.format.leastPlace) := by
  obtain ⟨h1, h2, h3⟩ := read_val h
  rw [← h2, ← h3, Nat.shiftLeft_eq, Rat.natCast_mul, Rat.mul_assoc, ← two_sub h1]
  unfold dv ng
  cases s <;> simp [Rat.neg_mul]

theorem val_eq {x : Fl k} (h : fin x = true) : val x = ng (sg x) (au x) := by
  obtain ⟨s, m, e, hd⟩ := fin_num h
  have : val x = dv (.number s m e) := by unfold val; rw [show k.decode x.bits = _ from hd]
  rw [this, dv_read hd]; rfl

theorem val_num {x : Fl k} {s : Bool} {m : Nat} {e : Int} (h : k.format.read x.bits = .number s m e) : val x = dv (.number s m e) := by
  unfold val; rw [show k.decode x.bits = _ from h]

theorem of_word (s : Bool) {r : Nat} (h : r < k.format.infRung) : fin (Fl.of k (k.format.word s r)) = true ∧ sg (Fl.of k (k.format.word s r)) = s ∧ (Fl.of k (k.format.word s r)).bits % k.format.signWeight = r := by
  obtain ⟨h1, h2, h3⟩ := word_facts s (Nat.le_of_lt h)
  have hn : nanB k (k.format.word s r) = false := by
    rcases read_cases (k := k) (k.format.word s r) with ⟨_, s', m, e, hd⟩ | ⟨h', _⟩
    · unfold nanB; rw [show k.decode _ = _ from hd]; rfl
    · rw [h1] at h'; exact absurd h h'
  have hb : (Fl.of k (k.format.word s r)).bits = k.format.word s r := by
    rw [Fl.of_bits h3]; unfold canon; rw [hn]; rfl
  refine ⟨fin_iff.2 (by rw [hb, h1]; exact h), ?_, by rw [hb, h1]⟩
  unfold sg; rw [hb, h2]

theorem write_rung (s : Bool) (m : Nat) (e : Int) {rl ru : Nat} (hl : (unitOf k.format.binade rl : Rat) * 2 ^ k.format.leastPlace ≤ (m : Rat) * 2 ^ e) (hu : (m : Rat) * 2 ^ e ≤ (unitOf k.format.binade ru : Rat) * 2 ^ k.format.leastPlace) (hru : ru < k.format.infRung) :
    ∃ R, k.format.write (.number s m e) = k.format.word s R ∧ rl ≤ R ∧ R ≤ ru := by
  obtain ⟨hB, _, _, _⟩ := fmt_facts k
  have hBp : 0 < k.format.binade := by rw [← hB]; exact Nat.two_pow_pos _
  show ∃ R, k.format.nearest s m e = k.format.word s R ∧ rl ≤ R ∧ R ≤ ru
  by_cases hm : m = 0
  · subst hm
    refine ⟨0, ?_, ?_, Nat.zero_le _⟩
    · unfold Ieee.Format.nearest; rw [if_pos rfl]
    · rcases Nat.eq_zero_or_pos rl with h | h
      · omega
      · exfalso
        have h1 := unit_lt hBp h
        rw [scale_le (b := min e k.format.leastPlace) (by omega) (by omega), Nat.zero_mul] at hl
        have h2 : 0 < unitOf k.format.binade rl * 2 ^ (k.format.leastPlace - min e k.format.leastPlace).toNat := Nat.mul_pos (by omega) (Nat.two_pow_pos _)
        omega
  · rw [scale_le (b := min e k.format.leastPlace) (by omega) (by omega)] at hl hu
    rw [← hB] at hl hu
    have hLa : (max (e + m.log2 - k.format.fractionBits) k.format.leastPlace - min e k.format.leastPlace).toNat = max ((e - min e k.format.leastPlace).toNat + m.log2 - k.format.fractionBits) (k.format.leastPlace - min e k.format.leastPlace).toNat := by omega
    have k1 := rung_hi (s := s) hm hLa hu
    have k2 := rung_lo (s := s) hm hLa hl
    refine ⟨_, ?_, k2, k1⟩
    unfold Ieee.Format.nearest
    rw [if_neg hm]
    simp only
    unfold keptN
    have e1 : (e - max (e + (m.log2 : Int) - k.format.fractionBits) k.format.leastPlace).toNat = (e - min e k.format.leastPlace).toNat - (max (e + m.log2 - k.format.fractionBits) k.format.leastPlace - min e k.format.leastPlace).toNat := by omega
    have e2 : (max (e + (m.log2 : Int) - k.format.fractionBits) k.format.leastPlace - e).toNat = (max (e + m.log2 - k.format.fractionBits) k.format.leastPlace - min e k.format.leastPlace).toNat - (e - min e k.format.leastPlace).toNat := by omega
    have e3 : (max (e + (m.log2 : Int) - k.format.fractionBits) k.format.leastPlace - k.format.leastPlace).toNat = (max (e + m.log2 - k.format.fractionBits) k.format.leastPlace - min e k.format.leastPlace).toNat - (k.format.leastPlace - min e k.format.leastPlace).toNat := by omega
    rw [e1, e2, e3, ← hB]
    unfold keptN at k1
    rw [Nat.min_eq_left (by omega)]

/-- a number rounded lies between numbers of the format that enclose it -/
theorem between (s : Bool) (m : Nat) (e : Int) {L U : Fl k} (hL : fin L = true) (hU : fin U = true) (h1 : val L ≤ dv (.number s m e)) (h2 : dv (.number s m e) ≤ val U) :
    fin (Fl.of k (k.format.write (.number s m e))) = true ∧ val L ≤ val (Fl.of k (k.format.write (.number s m e))) ∧ val (Fl.of k (k.format.write (.number s m e))) ≤ val U := by
  obtain ⟨hB, _, _, _⟩ := fmt_facts k
  have hBp : 0 < k.format.binade := by rw [← hB]; exact Nat.two_pow_pos _
  have hM : (0 : Rat) ≤ (m : Rat) * 2 ^ e := Rat.mul_nonneg Rat.natCast_nonneg (Rat.le_of_lt (two_pos _))
  have u0 : (unitOf k.format.binade 0 : Rat) * 2 ^ k.format.leastPlace = 0 := by
    have : unitOf k.format.binade 0 = 0 := by unfold unitOf; rw [if_pos hBp]
    rw [this]; simp
  have mono : ∀ {r q : Nat}, r ≤ q → (unitOf k.format.binade r : Rat) * 2 ^ k.format.leastPlace ≤ (unitOf k.format.binade q : Rat) * 2 ^ k.format.leastPlace := fun h =>
    Rat.mul_le_mul_of_nonneg_right (Rat.natCast_le_natCast.2 (unit_le hBp h)) (Rat.le_of_lt (two_pos _))
  have nL := au_nonneg L
  have nU := au_nonneg U
  rw [val_eq hL] at h1 ⊢
  rw [val_eq hU] at h2 ⊢
  have fL := fin_iff.1 hL
  have fU := fin_iff.1 hU
  cases s with
  | false =>
    have d : dv (.number false m e) = (m : Rat) * 2 ^ e := by unfold dv; simp
    rw [d] at h1 h2
    have hu : (m : Rat) * 2 ^ e ≤ au U := by unfold ng at h2; split at h2 <;> grind
    obtain ⟨R, w, r1, r2⟩ := write_rung (k := k) false m e (rl := if sg L then 0 else L.bits % k.format.signWeight) (by
      split
      · rw [u0]; exact hM
      · rename_i hs; unfold ng at h1; rw [if_neg hs] at h1; exact h1) hu fU
    rw [w]
    obtain ⟨f1, f2, f3⟩ := of_word (k := k) false (r := R) (by omega)
    refine ⟨f1, ?_⟩
    rw [val_eq f1, f2]
    have ha : au (Fl.of k (k.format.word false R)) = (unitOf k.format.binade R : Rat) * 2 ^ k.format.leastPlace := by unfold au; rw [f3]
    have hn : 0 ≤ au (Fl.of k (k.format.word false R)) := au_nonneg _
    have k2 := mono r2
    have k1 := mono r1
    rw [← ha] at k1 k2
    unfold ng at h1 h2 ⊢
    constructor
    · split at k1
      · rename_i hs; simp only [hs, if_true]; grind
      · rename_i hs; simp only [hs]; exact k1
    · by_cases hs : sg U = true
      · simp only [hs, if_true] at h2 ⊢; unfold au at *; grind
      · simp only [hs] at h2 ⊢; unfold au at *; grind
  | true =>
    have d : dv (.number true m e) = -((m : Rat) * 2 ^ e) := by unfold dv; simp [Rat.neg_mul]
    rw [d] at h1 h2
    have hu : (m : Rat) * 2 ^ e ≤ au L := by unfold ng at h1; split at h1 <;> grind
    obtain ⟨R, w, r1, r2⟩ := write_rung (k := k) true m e (rl := if sg U then U.bits % k.format.signWeight else 0) (by
      split
      · rename_i hs; unfold ng at h2; rw [if_pos hs] at h2; unfold au at h2; grind
      · rw [u0]; exact hM) hu fL
    rw [w]
    obtain ⟨f1, f2, f3⟩ := of_word (k := k) true (r := R) (by omega)
    refine ⟨f1, ?_⟩
    rw [val_eq f1, f2]
    have ha : au (Fl.of k (k.format.word true R)) = (unitOf k.format.binade R : Rat) * 2 ^ k.format.leastPlace := by unfold au; rw [f3]
    have hn : 0 ≤ au (Fl.of k (k.format.word true R)) := au_nonneg _
    have k2 := mono r2
    have k1 := mono r1
    rw [← ha] at k1 k2
    unfold ng at h1 h2 ⊢
    simp only [if_true]
    constructor
    · split
      · unfold au at *; grind
      · rename_i hs; simp only [hs] at h1; unfold au at *; grind
    · split
      · rename_i hs; simp only [hs, if_true] at k1; unfold au at *; grind
      · grind
end
end Go.Ab
