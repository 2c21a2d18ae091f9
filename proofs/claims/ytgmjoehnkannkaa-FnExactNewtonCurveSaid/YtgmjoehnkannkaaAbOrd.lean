/-
  Floats in order: a number's bits, read as a whole number with a sign, are in the numbers' order.
-/
import Derived.Test.YtgmjoehnkannkaaAbLoops
namespace Go.Ab

/-- a rung's magnitude in units of the least place -/
def unitOf (B r : Nat) : Nat := if r < B then r else (B + r % B) * 2 ^ (r / B - 1)

theorem unit_succ {B : Nat} (hB : 0 < B) (r : Nat) : unitOf B r < unitOf B (r + 1) := by
  have hr := Nat.div_add_mod r B
  have ht := Nat.mod_lt r hB
  by_cases h1 : r + 1 < B
  · unfold unitOf; rw [if_pos (by omega), if_pos h1]; omega
  · by_cases h2 : r < B
    · have : r + 1 = B := by omega
      unfold unitOf
      rw [if_pos h2, if_neg h1, this, Nat.mod_self, Nat.div_self hB]
      simp; omega
    · have hq : 1 ≤ r / B := by rw [Nat.one_le_div_iff hB]; omega
      have hpow : 0 < 2 ^ (r / B - 1) := Nat.two_pow_pos _
      unfold unitOf
      rw [if_neg h2, if_neg h1]
      by_cases h3 : r % B + 1 = B
      · have e : r + 1 = B * (r / B + 1) := by rw [Nat.mul_add, Nat.mul_one]; omega
        have hm : (r + 1) % B = 0 := by rw [e, Nat.mul_mod_right]
        have hd : (r + 1) / B = r / B + 1 := by rw [e, Nat.mul_div_cancel_left _ hB]
        rw [hm, hd, show r / B + 1 - 1 = (r / B - 1) + 1 by omega, Nat.pow_succ]
        have : (B + r % B) * 2 ^ (r / B - 1) < (B + B) * 2 ^ (r / B - 1) := Nat.mul_lt_mul_of_pos_right (by omega) hpow
        rw [Nat.add_zero, Nat.mul_comm (2 ^ (r / B - 1)) 2, ← Nat.mul_assoc, Nat.mul_two]
        exact this
      · have e : r + 1 = B * (r / B) + (r % B + 1) := by omega
        have hlt : r % B + 1 < B := by omega
        have hm : (r + 1) % B = r % B + 1 := by rw [e, Nat.mul_add_mod, Nat.mod_eq_of_lt hlt]
        have hd : (r + 1) / B = r / B := by rw [e, Nat.mul_add_div hB, Nat.div_eq_of_lt hlt, Nat.add_zero]
        rw [hm, hd]
        exact Nat.mul_lt_mul_of_pos_right (by omega) hpow

theorem unit_lt {B : Nat} (hB : 0 < B) {r s : Nat} (h : r < s) : unitOf B r < unitOf B s := by
  induction s with
  | zero => omega
  | succ s ih =>
    rcases Nat.lt_or_ge r s with h1 | h1
    · exact Nat.lt_trans (ih h1) (unit_succ hB s)
    · have : r = s := by omega
      subst this; exact unit_succ hB r

/-- the sign and the rung as one whole number -/
def rank {k : FloatKind} (x : Fl k) : Int := if x.bits / k.format.signWeight % 2 = 1 then -((x.bits % k.format.signWeight : Nat) : Int) else ((x.bits % k.format.signWeight : Nat) : Int)

def valOf (s : Bool) (m : Nat) (e : Int) (l : Int) : Int := Ieee.signed s m (e - l).toNat

theorem signed_shift (s : Bool) (m a b : Nat) : Ieee.signed s m (a + b) = Ieee.signed s m a * 2 ^ b := by
  unfold Ieee.signed
  cases s <;> simp [Nat.shiftLeft_eq, Nat.pow_add, Int.mul_assoc, Int.neg_mul]

theorem order_val {s t : Bool} {m n : Nat} {i j l : Int} (hi : l ≤ i) (hj : l ≤ j) : (Ieee.Datum.number s m i).order (.number t n j) = some (compare (valOf s m i l) (valOf t n j l)) := by
  simp only [Ieee.Datum.order, valOf]
  have h1 : (i - l).toNat = (i - min i j).toNat + (min i j - l).toNat := by omega
  have h2 : (j - l).toNat = (j - min i j).toNat + (min i j - l).toNat := by omega
  rw [h1, h2, signed_shift, signed_shift]
  have hp : (0 : Int) < 2 ^ (min i j - l).toNat := Int.pow_pos (by omega)
  congr 1
  generalize Ieee.signed s m (i - min i j).toNat = a
  generalize Ieee.signed t n (j - min i j).toNat = b
  generalize (2 : Int) ^ (min i j - l).toNat = p at hp
  rcases Int.lt_trichotomy a b with h | h | h
  · rw [Int.compare_eq_lt.2 h, Int.compare_eq_lt.2 (Int.mul_lt_mul_of_pos_right h hp)]
  · subst h; rw [Int.compare_eq_eq.2 rfl, Int.compare_eq_eq.2 rfl]
  · rw [Int.compare_eq_gt.2 h, Int.compare_eq_gt.2 (Int.mul_lt_mul_of_pos_right h hp)]

/-- a number's value in units of the least place -/
theorem read_val {f : Ieee.Format} {b : Nat} {s : Bool} {m : Nat} {e : Int} (h : f.read b = .number s m e) : f.leastPlace ≤ e ∧ s = (b / f.signWeight % 2 == 1) ∧ m <<< (e - f.leastPlace).toNat = unitOf f.binade (b % f.signWeight) := by
  unfold Ieee.Format.read at h
  simp only at h
  split at h
  · rename_i hlt
    cases h
    refine ⟨Int.le_refl _, rfl, ?_⟩
    unfold unitOf
    rw [if_pos hlt]; simp
  · rename_i hlt
    split at h
    · cases h
      refine ⟨by omega, rfl, ?_⟩
      unfold unitOf
      rw [if_neg hlt, Nat.shiftLeft_eq]
      congr 2
      omega
    · split at h <;> cases h

theorem signed_eq (s : Bool) (m a : Nat) : Ieee.signed s m a = if s then -((m <<< a : Nat) : Int) else ((m <<< a : Nat) : Int) := rfl

/-- numbers stand to each other as their ranks do -/
theorem ford_rank {k : FloatKind} {x y : Fl k} (hx : fin x = true) (hy : fin y = true) : ford x y = some (compare (rank x) (rank y)) := by
  have hB : 0 < k.format.binade := Nat.two_pow_pos _
  unfold fin at hx hy
  cases hdx : k.decode x.bits with
  | infinity => rw [hdx] at hx; cases hx
  | nan => rw [hdx] at hx; cases hx
  | number s m i =>
  cases hdy : k.decode y.bits with
  | infinity => rw [hdy] at hy; cases hy
  | nan => rw [hdy] at hy; cases hy
  | number t n j =>
  have hdx' : k.format.read x.bits = .number s m i := hdx
  have hdy' : k.format.read y.bits = .number t n j := hdy
  obtain ⟨h1, h2, h3⟩ := read_val hdx'
  obtain ⟨h4, h5, h6⟩ := read_val hdy'
  have e : ford x y = (Ieee.Datum.number s m i).order (.number t n j) := by
    show (k.format.read x.bits).order (k.format.read y.bits) = _
    rw [hdx', hdy']
  rw [e, order_val h1 h4]
  congr 1
  unfold valOf
  rw [signed_eq, signed_eq, h3, h6]
  unfold rank
  generalize x.bits % k.format.signWeight = r at *
  generalize y.bits % k.format.signWeight = q at *
  have key : ∀ (a b : Nat), (a < b → unitOf k.format.binade a < unitOf k.format.binade b) := fun a b h => unit_lt hB h
  have u0 : unitOf k.format.binade 0 = 0 := by unfold unitOf; rw [if_pos hB]
  have pos : ∀ a, 0 < a → 0 < unitOf k.format.binade a := fun a h => by have := key 0 a h; omega
  have hs : (s = true) ↔ x.bits / k.format.signWeight % 2 = 1 := by rw [h2]; simp
  have ht : (t = true) ↔ y.bits / k.format.signWeight % 2 = 1 := by rw [h5]; simp
  have cmp : ∀ (A B C D : Int), (A < B ↔ C < D) → (B < A ↔ D < C) → compare A B = compare C D := by
    intro A B C D k1 k2
    rcases Int.lt_trichotomy A B with h | h | h
    · rw [Int.compare_eq_lt.2 h, Int.compare_eq_lt.2 (k1.1 h)]
    · have : C = D := by
        rcases Int.lt_trichotomy C D with h' | h' | h'
        · have := k1.2 h'; omega
        · exact h'
        · have := k2.2 h'; omega
      rw [Int.compare_eq_eq.2 h, Int.compare_eq_eq.2 this]
    · rw [Int.compare_eq_gt.2 h, Int.compare_eq_gt.2 (k2.1 h)]
  have mono : unitOf k.format.binade r < unitOf k.format.binade q ↔ r < q := by
    constructor
    · intro h
      rcases Nat.lt_trichotomy r q with h' | h' | h'
      · exact h'
      · subst h'; omega
      · have := key q r h'; omega
    · exact key r q
  have mono' : unitOf k.format.binade q < unitOf k.format.binade r ↔ q < r := by
    constructor
    · intro h
      rcases Nat.lt_trichotomy q r with h' | h' | h'
      · exact h'
      · subst h'; omega
      · have := key r q h'; omega
    · exact key q r
  have zr : unitOf k.format.binade r = 0 ↔ r = 0 := by
    constructor
    · intro h; rcases Nat.eq_zero_or_pos r with h' | h'
      · exact h'
      · have := pos r h'; omega
    · intro h; rw [h, u0]
  have zq : unitOf k.format.binade q = 0 ↔ q = 0 := by
    constructor
    · intro h; rcases Nat.eq_zero_or_pos q with h' | h'
      · exact h'
      · have := pos q h'; omega
    · intro h; rw [h, u0]
  generalize unitOf k.format.binade r = ur at *
  generalize unitOf k.format.binade q = uq at *
  have cs : s = true ∨ s = false := by cases s <;> simp
  have ct : t = true ∨ t = false := by cases t <;> simp
  have T : ∀ {p : Prop}, (true = true ↔ p) → p = True := fun h => eq_true (h.1 rfl)
  have F : ∀ {p : Prop}, (false = true ↔ p) → p = False := fun h => eq_false fun hp => by cases h.2 hp
  rcases cs with rfl | rfl <;> rcases ct with rfl | rfl
  · simp only [T hs, T ht, if_true]; exact cmp _ _ _ _ (by omega) (by omega)
  · simp only [T hs, F ht, if_true, if_false, Bool.false_eq_true]; exact cmp _ _ _ _ (by omega) (by omega)
  · simp only [F hs, T ht, if_true, if_false, Bool.false_eq_true]; exact cmp _ _ _ _ (by omega) (by omega)
  · simp only [F hs, F ht, if_false, Bool.false_eq_true]; exact cmp _ _ _ _ (by omega) (by omega)
end Go.Ab
