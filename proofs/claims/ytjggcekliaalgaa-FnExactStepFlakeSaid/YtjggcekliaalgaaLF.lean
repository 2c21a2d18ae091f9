/-
  Whole numbers and powers of two as floats: told one by one.
-/
import Derived.Test.YtjggcekliaalgaaLE
namespace Go.Ab
theorem int_val : ∀ k : Fin 401, fin (fofInt .f64 ((k.val : Int) - 200)) = true ∧ val (fofInt .f64 ((k.val : Int) - 200)) = (((k.val : Int) - 200 : Int) : Rat) ∧ fadd (fofInt .f64 ((k.val : Int) - 200)) one64 = fofInt .f64 ((k.val : Int) - 199) ∧ fsub (fofInt .f64 ((k.val : Int) - 200)) one64 = fofInt .f64 ((k.val : Int) - 201) := by decide +kernel
theorem int_val32 : ∀ k : Fin 401, fin (fofInt .f32 ((k.val : Int) - 200)) = true ∧ val (fofInt .f32 ((k.val : Int) - 200)) = (((k.val : Int) - 200 : Int) : Rat) := by decide +kernel
theorem p2_val : ∀ k : Fin 130, fin (fofInt .f64 ((2 ^ k.val : Nat) : Int)) = true ∧ val (fofInt .f64 ((2 ^ k.val : Nat) : Int)) = ((2 ^ k.val : Nat) : Rat) := by decide +kernel
theorem q2_val : ∀ k : Fin 150, fin (Fl.of .f64 ((1023 - k.val) * 2 ^ 52)) = true ∧ val (Fl.of .f64 ((1023 - k.val) * 2 ^ 52)) * ((2 ^ k.val : Nat) : Rat) = 1 := by decide +kernel

end Go.Ab

/-
  The logarithm of a finite number greater than 0: its loops end, and it is not great.
-/
namespace Go.Ab

def h15 : Fl .f64 := Fl.of .f64 4609434218613702656
def h34 : Fl .f64 := Fl.of .f64 4604930618986332160
def two64 : Fl .f64 := Fl.of .f64 4611686018427387904
def ln2c : Fl .f64 := Fl.of .f64 4604418534313441775
def lup : Nat → Fl .f64 → Int → Fl .f64 × Int
  | 0, y, e => (y, e)
  | n + 1, y, e => if fge y h15 = true then lup n (fdiv y two64) (e + 1) else (y, e)
def ldn : Nat → Fl .f64 → Int → Fl .f64 × Int
  | 0, y, e => (y, e)
  | n + 1, y, e => if flt y h34 = true then ldn n (fmul y two64) (e - 1) else (y, e)
def lstep (u q : Fl .f64) (k : Int) : Fl .f64 := fadd (fdiv one64 (fofInt .f64 k)) (fmul u q)
def lpol (u : Fl .f64) : Nat → Int → Fl .f64 → Fl .f64
  | 0, _, q => q
  | n + 1, k, q => lpol u n (k - 2) (lstep u q k)
def lcore (y : Fl .f64) (e : Int) : Fl .f64 :=
  fadd (fmul two64 (fmul (fdiv (fsub y one64) (fadd y one64)) (lpol (fmul (fdiv (fsub y one64) (fadd y one64)) (fdiv (fsub y one64) (fadd y one64))) 13 25 (Fl.of .f64 0)))) (fmul (fofInt .f64 e) ln2c)
def log64 (x : Fl .f64) : Fl .f64 := lcore (ldn 160 (lup 160 x 0).1 (lup 160 x 0).2).1 (ldn 160 (lup 160 x 0).1 (lup 160 x 0).2).2

theorem q15 : fin h15 = true ∧ val h15 = 3 / 2 := by decide +kernel
theorem q34 : fin h34 = true ∧ val h34 = 3 / 4 := by decide +kernel
theorem q2 : fin two64 = true ∧ val two64 = 2 := by decide +kernel
theorem qln : fin ln2c = true ∧ 0 ≤ val ln2c ∧ val ln2c ≤ 1 := by decide +kernel
theorem qh : fin (Fl.of .f64 4602678819172646912) = true ∧ val (Fl.of .f64 4602678819172646912) = 1 / 2 := by decide +kernel
theorem qmh : fin (Fl.of .f64 13826050856027422720) = true ∧ val (Fl.of .f64 13826050856027422720) = -1 / 2 := by decide +kernel
theorem qq : fin (Fl.of .f64 4598175219545276416) = true ∧ val (Fl.of .f64 4598175219545276416) = 1 / 4 := by decide +kernel
theorem qmq : fin (Fl.of .f64 13821547256400052224) = true ∧ val (Fl.of .f64 13821547256400052224) = -1 / 4 := by decide +kernel
theorem q74 : fin (Fl.of .f64 4610560118520545280) = true ∧ val (Fl.of .f64 4610560118520545280) = 7 / 4 := by decide +kernel
theorem q52 : fin (Fl.of .f64 4612811918334230528) = true ∧ val (Fl.of .f64 4612811918334230528) = 5 / 2 := by decide +kernel
theorem iv {e : Int} (h0 : -200 ≤ e) (h1 : e ≤ 200) : fin (fofInt .f64 e) = true ∧ val (fofInt .f64 e) = (e : Rat) ∧ fadd (fofInt .f64 e) one64 = fofInt .f64 (e + 1) ∧ fsub (fofInt .f64 e) one64 = fofInt .f64 (e - 1) := by
  have h := int_val ⟨(e + 200).toNat, by omega⟩
  simp only at h
  rw [show (((e + 200).toNat : Nat) : Int) - 200 = e by omega, show (((e + 200).toNat : Nat) : Int) - 199 = e + 1 by omega, show (((e + 200).toNat : Nat) : Int) - 201 = e - 1 by omega] at h
  exact h
theorem iv32 {e : Int} (h0 : -200 ≤ e) (h1 : e ≤ 200) : fin (fofInt .f32 e) = true ∧ val (fofInt .f32 e) = (e : Rat) := by
  have h := int_val32 ⟨(e + 200).toNat, by omega⟩
  simp only at h
  rw [show (((e + 200).toNat : Nat) : Int) - 200 = e by omega] at h
  exact h

theorem pow_two_succ (k : Nat) : ((2 ^ (k + 1) : Nat) : Rat) = 2 * ((2 ^ k : Nat) : Rat) := by
  rw [Nat.pow_succ, Rat.natCast_mul]
  have : ((2 : Nat) : Rat) = 2 := rfl
  rw [this]; grind

structure UpOk (y : Fl .f64) (e : Int) (k : Nat) (r : Fl .f64 × Int) : Prop where
  fin : fin r.1 = true
  hi : val r.1 < 3 / 2
  lo : e ≤ r.2
  up : r.2 ≤ e + k
  at3 : 3 / 4 ≤ val y → 3 / 4 ≤ val r.1
  same : val y < 3 / 2 → r = (y, e)

theorem up_ok : ∀ (k n : Nat) (y : Fl .f64) (e : Int), k ≤ n → k < 130 → fin y = true → val y ≤ ((2 ^ k : Nat) : Rat) → UpOk y e k (lup n y e)
  | 0, n, y, e, _, _, hf, hv => by
    have h1 : val y ≤ 1 := by simpa using hv
    have hn : ¬ fge y h15 = true := by rw [fge_val hf q15.1, q15.2]; simp; grind
    have e1 : lup n y e = (y, e) := by cases n with | zero => rfl | succ n => unfold lup; rw [if_neg hn]
    rw [e1]
    exact ⟨hf, by grind, Int.le_refl _, by simp, fun h => h, fun _ => rfl⟩
  | k + 1, n, y, e, hk, hk2, hf, hv => by
    by_cases hg : fge y h15 = true
    · obtain ⟨m, rfl⟩ : ∃ m, n = m + 1 := ⟨n - 1, by omega⟩
      have hge : 3 / 2 ≤ val y := by rw [fge_val hf q15.1, q15.2] at hg; exact of_decide_eq_true hg
      rw [pow_two_succ] at hv
      obtain ⟨u1, u2⟩ := p2_val ⟨k, by omega⟩
      simp only at u1 u2
      have d := div_between (x := y) (y := two64) (L := h34) (U := fofInt .f64 ((2 ^ k : Nat) : Int)) hf q2.1 q34.1 u1 (by rw [q2.2]; decide) (by rw [q34.2, q2.2, le_div_iff' (by decide)]; grind) (by rw [u2, q2.2, div_le_iff' (by decide)]; grind)
      rw [q34.2, u2] at d
      obtain ⟨d0, d1, d2⟩ := d
      have ih := up_ok k m (fdiv y two64) (e + 1) (by omega) (by omega) d0 d2
      have e1 : lup (m + 1) y e = lup m (fdiv y two64) (e + 1) := by rw [lup]; exact if_pos hg
      rw [e1]
      exact ⟨ih.fin, ih.hi, by have := ih.lo; omega, by have := ih.up; omega, fun _ => ih.at3 d1, fun h => by grind⟩
    · have hlt : val y < 3 / 2 := by rw [fge_val hf q15.1, q15.2] at hg; simp at hg; grind
      have e1 : lup n y e = (y, e) := by cases n with | zero => rfl | succ n => rw [lup]; exact if_neg hg
      rw [e1]
      exact ⟨hf, hlt, Int.le_refl _, by omega, fun h => h, fun _ => rfl⟩

structure DnOk (y : Fl .f64) (e : Int) (k : Nat) (r : Fl .f64 × Int) : Prop where
  fin : fin r.1 = true
  hi : val r.1 ≤ 3 / 2
  lo : 3 / 4 ≤ val r.1
  up : r.2 ≤ e
  dn : e - k ≤ r.2
  same : 3 / 4 ≤ val y → r = (y, e)

theorem dn_ok : ∀ (k n : Nat) (y : Fl .f64) (e : Int), k ≤ n → k < 150 → fin y = true → val y ≤ 3 / 2 → 1 ≤ val y * ((2 ^ k : Nat) : Rat) → DnOk y e k (ldn n y e)
  | 0, n, y, e, _, _, hf, hv, hl => by
    have h1 : 1 ≤ val y := by have : ((2 ^ 0 : Nat) : Rat) = 1 := rfl
                              rw [this] at hl; grind
    have hn : ¬ flt y h34 = true := by rw [flt_val hf q34.1, q34.2]; simp; grind
    have e1 : ldn n y e = (y, e) := by cases n with | zero => rfl | succ n => rw [ldn]; exact if_neg hn
    rw [e1]
    exact ⟨hf, hv, by grind, Int.le_refl _, by simp, fun _ => rfl⟩
  | k + 1, n, y, e, hk, hk2, hf, hv, hl => by
    by_cases hg : flt y h34 = true
    · obtain ⟨m, rfl⟩ : ∃ m, n = m + 1 := ⟨n - 1, by omega⟩
      have hlt : val y < 3 / 4 := by rw [flt_val hf q34.1, q34.2] at hg; exact of_decide_eq_true hg
      rw [pow_two_succ] at hl
      obtain ⟨u1, u2⟩ := q2_val ⟨k, by omega⟩
      simp only at u1 u2
      have hp : (0 : Rat) < ((2 ^ k : Nat) : Rat) := Rat.natCast_pos.2 (Nat.two_pow_pos k)
      have hL : val (Fl.of .f64 ((1023 - k) * 2 ^ 52)) ≤ val y * val two64 := by
        refine Rat.le_of_mul_le_mul_right (c := ((2 ^ k : Nat) : Rat)) ?_ hp
        rw [u2, q2.2]; grind
      have d := mul_between (x := y) (y := two64) (L := Fl.of .f64 ((1023 - k) * 2 ^ 52)) (U := h15) hf q2.1 u1 q15.1 hL (by rw [q15.2, q2.2]; grind)
      rw [q15.2] at d
      obtain ⟨d0, d1, d2⟩ := d
      have hl' : 1 ≤ val (fmul y two64) * ((2 ^ k : Nat) : Rat) := by
        have := Rat.mul_le_mul_of_nonneg_right d1 (Rat.le_of_lt hp)
        rw [u2] at this; exact this
      have ih := dn_ok k m (fmul y two64) (e - 1) (by omega) (by omega) d0 d2 hl'
      have e1 : ldn (m + 1) y e = ldn m (fmul y two64) (e - 1) := by rw [ldn]; exact if_pos hg
      rw [e1]
      exact ⟨ih.fin, ih.hi, ih.lo, by have := ih.up; omega, by have := ih.dn; omega, fun h => by grind⟩
    · have hge : 3 / 4 ≤ val y := by rw [flt_val hf q34.1, q34.2] at hg; simp at hg; grind
      have e1 : ldn n y e = (y, e) := by cases n with | zero => rfl | succ n => rw [ldn]; exact if_neg hg
      rw [e1]
      exact ⟨hf, hv, hge, Int.le_refl _, by omega, fun _ => rfl⟩

theorem lstep_in {u q : Fl .f64} {k : Int} (hu : In u (1 / 4)) (hq : In q 2) (h1 : 1 ≤ k) (h2 : k ≤ 200) : In (lstep u q k) 2 := by
  have hk := iv (e := k) (by omega) h2
  have hkf := hk.1
  have hk1 : (1 : Rat) ≤ val (fofInt .f64 k) := by
    rw [hk.2.1]
    have : ((1 : Int) : Rat) ≤ ((k : Int) : Rat) := Rat.intCast_le_intCast.2 h1
    simpa using this
  clear hk
  unfold lstep
  generalize fofInt .f64 k = kk at hkf hk1 ⊢
  have kp : 0 < val kk := by grind
  have kn : val kk ≠ 0 := by grind
  have f1 : 0 ≤ 1 / val kk := by rw [le_div_iff' kp, Rat.zero_mul]; decide
  have f2 : 1 / val kk ≤ 1 := by rw [div_le_iff' kp, Rat.one_mul]; exact hk1
  have d := div_between (x := one64) (y := kk) (L := Fl.of .f64 0) (U := one64) k1.1 hkf k0.1 k1.1 kn (by rw [k0.2, k1.2]; exact f1) (by rw [k1.2]; exact f2)
  rw [k0.2, k1.2] at d
  obtain ⟨d0, d1, d2⟩ := d
  generalize fdiv one64 kk = dd at d0 d1 d2 ⊢
  have u0 := hu.lo
  have u1 := hu.hi
  have q0 := hq.lo
  have q1 := hq.hi
  have a0 : 0 ≤ val u * val q := Rat.mul_nonneg u0 q0
  have a1 : 0 ≤ (1 / 4 - val u) * val q := Rat.mul_nonneg (by grind) q0
  have m := mul_between (x := u) (y := q) (L := Fl.of .f64 0) (U := Fl.of .f64 4602678819172646912) hu.fin hq.fin k0.1 qh.1 (by rw [k0.2]; exact a0) (by rw [qh.2]; grind)
  rw [k0.2, qh.2] at m
  obtain ⟨m0, m1, m2⟩ := m
  generalize fmul u q = mm at m0 m1 m2 ⊢
  have a := add_between (x := dd) (y := mm) (L := Fl.of .f64 0) (U := two64) d0 m0 k0.1 q2.1 (by rw [k0.2]; grind) (by rw [q2.2]; grind)
  rw [k0.2, q2.2] at a
  exact ⟨a.1, a.2.1, a.2.2⟩
end Go.Ab

/-
  The logarithm's sum.
-/
namespace Go.Ab
theorem lpol_in {u : Fl .f64} (hu : In u (1 / 4)) : ∀ (n : Nat) (k : Int) (q : Fl .f64), 2 * (n : Int) ≤ k + 1 → k ≤ 25 → In q 2 → In (lpol u n k q) 2
  | 0, _, _, _, _, hq => hq
  | n + 1, k, q, h1, h2, hq => lpol_in hu n (k - 2) (lstep u q k) (by omega) (by omega) (lstep_in hu hq (by omega) (by omega))

theorem lcore_in {y : Fl .f64} {e : Int} (hf : fin y = true) (h1 : 3 / 4 ≤ val y) (h2 : val y ≤ 3 / 2) (lo hi : Int) (e1 : lo ≤ e) (e2 : e ≤ hi) (b1 : -190 ≤ lo) (b2 : hi ≤ 190) (c1 : lo ≤ 0) (c2 : 0 ≤ hi) :
    fin (lcore y e) = true ∧ ((lo - 1 : Int) : Rat) ≤ val (lcore y e) ∧ val (lcore y e) ≤ ((hi + 2 : Int) : Rat) := by
  have a := sub_between (x := y) (y := one64) (L := Fl.of .f64 13821547256400052224) (U := Fl.of .f64 4602678819172646912) hf k1.1 qmq.1 qh.1 (by rw [qmq.2, k1.2]; grind) (by rw [qh.2, k1.2]; grind)
  have b := add_between (x := y) (y := one64) (L := Fl.of .f64 4610560118520545280) (U := Fl.of .f64 4612811918334230528) hf k1.1 q74.1 q52.1 (by rw [q74.2, k1.2]; grind) (by rw [q52.2, k1.2]; grind)
  rw [qmq.2, qh.2] at a
  rw [q74.2, q52.2] at b
  have s := div_between (x := fsub y one64) (y := fadd y one64) (L := Fl.of .f64 13821547256400052224) (U := Fl.of .f64 4602678819172646912) a.1 b.1 qmq.1 qh.1 (by grind) (by rw [qmq.2, le_div_iff' (by grind)]; grind) (by rw [qh.2, div_le_iff' (by grind)]; grind)
  rw [qmq.2, qh.2] at s
  obtain ⟨s0, s1, s2⟩ := s
  unfold lcore
  generalize fdiv (fsub y one64) (fadd y one64) = z at s0 s1 s2 ⊢
  have n0 : 0 ≤ (1 / 2 - val z) * (val z + 1 / 2) := Rat.mul_nonneg (by grind) (by grind)
  have n1 : 0 ≤ val z * val z := by
    rcases Rat.le_total (a := 0) (b := val z) with h | h
    · exact Rat.mul_nonneg h h
    · have := Rat.mul_nonneg (a := -val z) (b := -val z) (by grind) (by grind); grind
  have u := mul_between (x := z) (y := z) (L := Fl.of .f64 0) (U := Fl.of .f64 4598175219545276416) s0 s0 k0.1 qq.1 (by rw [k0.2]; exact n1) (by rw [qq.2]; grind)
  rw [k0.2, qq.2] at u
  have q := lpol_in ⟨u.1, u.2.1, u.2.2⟩ 13 25 (Fl.of .f64 0) (by decide) (by decide) ⟨k0.1, by rw [k0.2]; exact Rat.le_refl, by rw [k0.2]; decide +kernel⟩
  generalize lpol (fmul z z) 13 25 (Fl.of .f64 0) = p at q ⊢
  have p0 := q.lo
  have p1 := q.hi
  have m0 : 0 ≤ (1 / 2 - val z) * val p := Rat.mul_nonneg (by grind) p0
  have m1 : 0 ≤ (val z + 1 / 4) * val p := Rat.mul_nonneg (by grind) p0
  have t := mul_between (x := z) (y := p) (L := Fl.of .f64 13826050856027422720) (U := one64) s0 q.fin qmh.1 k1.1 (by rw [qmh.2]; grind) (by rw [k1.2]; grind)
  rw [qmh.2, k1.2] at t
  have w := mul_between (x := two64) (y := fmul z p) (L := Fl.of .f64 13830554455654793216) (U := two64) q2.1 t.1 km1.1 q2.1 (by rw [km1.2, q2.2]; grind) (by rw [q2.2]; grind)
  rw [km1.2, q2.2] at w
  have ev := iv (e := e) (by omega) (by omega)
  have lv := iv (e := lo) (by omega) (by omega)
  have hv := iv (e := hi) (by omega) (by omega)
  have lv1 := iv (e := lo - 1) (by omega) (by omega)
  have hv2 := iv (e := hi + 2) (by omega) (by omega)
  have r1 : (lo : Rat) ≤ (e : Rat) := Rat.intCast_le_intCast.2 e1
  have r2 : (e : Rat) ≤ (hi : Rat) := Rat.intCast_le_intCast.2 e2
  have r3 : (lo : Rat) ≤ 0 := by have := Rat.intCast_le_intCast.2 c1; simpa using this
  have r4 : 0 ≤ (hi : Rat) := by have := Rat.intCast_le_intCast.2 c2; simpa using this
  obtain ⟨l0, l1, l2⟩ := qln
  have g1 : 0 ≤ ((e : Rat) - lo) * val ln2c := Rat.mul_nonneg (by grind) l1
  have g2 : 0 ≤ ((hi : Rat) - e) * val ln2c := Rat.mul_nonneg (by grind) l1
  have g3 : 0 ≤ (-(lo : Rat)) * (1 - val ln2c) := Rat.mul_nonneg (by grind) (by grind)
  have g4 : 0 ≤ (hi : Rat) * (1 - val ln2c) := Rat.mul_nonneg r4 (by grind)
  have m := mul_between (x := fofInt .f64 e) (y := ln2c) (L := fofInt .f64 lo) (U := fofInt .f64 hi) ev.1 l0 lv.1 hv.1 (by rw [lv.2.1, ev.2.1]; grind) (by rw [hv.2.1, ev.2.1]; grind)
  rw [lv.2.1, hv.2.1] at m
  have z1 : ((lo - 1 : Int) : Rat) = (lo : Rat) - 1 := by rw [Rat.intCast_sub]; rfl
  have z2 : ((hi + 2 : Int) : Rat) = (hi : Rat) + 2 := by rw [Rat.intCast_add]; rfl
  have f := add_between (x := fmul two64 (fmul z p)) (y := fmul (fofInt .f64 e) ln2c) (L := fofInt .f64 (lo - 1)) (U := fofInt .f64 (hi + 2)) w.1 m.1 lv1.1 hv2.1 (by rw [lv1.2.1, z1]; grind) (by rw [hv2.2.1, z2]; grind)
  rw [lv1.2.1, hv2.2.1] at f
  exact f

/-- the bounds of a logarithm -/
theorem log64_in {x : Fl .f64} (hf : fin x = true) (j k : Nat) (hj1 : 1 ≤ j) (hj : j < 150) (hk : k < 130) (h1 : val x ≤ ((2 ^ k : Nat) : Rat)) (h2 : 1 ≤ val x * ((2 ^ j : Nat) : Rat)) :
    (fge (lup 160 x 0).1 h15 = false ∧ flt (ldn 160 (lup 160 x 0).1 (lup 160 x 0).2).1 h34 = false) ∧ (0 ≤ (lup 160 x 0).2 ∧ (lup 160 x 0).2 ≤ 130) ∧
    fin (log64 x) = true ∧ ((-(j : Int) - 1 : Int) : Rat) ≤ val (log64 x) ∧ val (log64 x) ≤ (((k : Int) + 2 : Int) : Rat) := by
  have u := up_ok k 160 x 0 (by omega) hk hf h1
  have hlo : 1 ≤ val (lup 160 x 0).1 * ((2 ^ j : Nat) : Rat) := by
    by_cases h : val x < 3 / 2
    · rw [u.same h]; exact h2
    · have h3 := u.at3 (by grind)
      obtain ⟨m, rfl⟩ : ∃ m, j = m + 1 := ⟨j - 1, by omega⟩
      have hm : (1 : Rat) ≤ ((2 ^ m : Nat) : Rat) := by
        have := Rat.natCast_le_natCast.2 (Nat.two_pow_pos m)
        simpa using this
      rw [pow_two_succ]
      have a := Rat.mul_nonneg (a := val (lup 160 x 0).1 - 3 / 4) (b := 2 * ((2 ^ m : Nat) : Rat)) (by grind) (by grind)
      grind
  have d := dn_ok j 160 (lup 160 x 0).1 (lup 160 x 0).2 (by omega) hj u.fin (by have := u.hi; grind) hlo
  have ul := u.lo
  have uu := u.up
  have dd := d.dn
  have du := d.up
  refine ⟨⟨?_, ?_⟩, ⟨ul, by omega⟩, ?_⟩
  · rw [fge_val u.fin q15.1, q15.2]
    have := u.hi
    exact decide_eq_false (by grind)
  · rw [flt_val d.fin q34.1, q34.2]
    have := d.lo
    exact decide_eq_false (by grind)
  · exact lcore_in d.fin d.lo d.hi (-(j : Int)) (k : Int) (by omega) (by omega) (by omega) (by omega) (by omega) (by omega)

/-! ### The loops -/
abbrev US : Type := ((Fl .f64 × (Int × Unit)) × Unit)
abbrev UF : Type := ((Fl .f64 × (Fl .f64 × Unit)) × Unit)
def upB (y : US) : Option (US ⊕ US) := bif fge y.1.1 (Fl.of .f64 4609434218613702656) then (some (Sum.inl (((fdiv y.1.1 (Fl.of .f64 4611686018427387904), (IntKind.i64.wrap (y.1.2.1 + 1), ())), ())))) else (some (Sum.inr (((y.1.1, (y.1.2.1, ())), ()))))
def dnB (y : US) : Option (US ⊕ US) := bif flt y.1.1 (Fl.of .f64 4604930618986332160) then (some (Sum.inl (((fmul y.1.1 (Fl.of .f64 4611686018427387904), (IntKind.i64.wrap (y.1.2.1 - 1), ())), ())))) else (some (Sum.inr (((y.1.1, (y.1.2.1, ())), ()))))
def upF (y : UF) : Option (UF ⊕ UF) := bif fge y.1.1 (Fl.of .f64 4609434218613702656) then (some (Sum.inl (((fdiv y.1.1 (Fl.of .f64 4611686018427387904), (fadd y.1.2.1 (Fl.of .f64 4607182418800017408), ())), ())))) else (some (Sum.inr (((y.1.1, (y.1.2.1, ())), ()))))
def dnF (y : UF) : Option (UF ⊕ UF) := bif flt y.1.1 (Fl.of .f64 4604930618986332160) then (some (Sum.inl (((fmul y.1.1 (Fl.of .f64 4611686018427387904), (fsub y.1.2.1 (Fl.of .f64 4607182418800017408), ())), ())))) else (some (Sum.inr (((y.1.1, (y.1.2.1, ())), ()))))

theorem up_loop : ∀ (n : Nat) (y : Fl .f64) (e : Int), -1000 ≤ e → e + n ≤ 1000 → fge (lup n y e).1 h15 = false → iter upB (n + 1) ((y, (e, ())), ()) = some (((lup n y e).1, ((lup n y e).2, ())), ()) ∧ (-200 ≤ e → e + n ≤ 200 → iter upF (n + 1) ((y, (fofInt .f64 e, ())), ()) = some (((lup n y e).1, (fofInt .f64 (lup n y e).2, ())), ()))
  | 0, y, e, _, _, h => by
    have h' : fge y (Fl.of .f64 4609434218613702656) = false := h
    refine ⟨?_, fun _ _ => ?_⟩
    · rw [iter]; unfold upB; simp only [h', cond_false, Option.bind_some]; rfl
    · rw [iter]; unfold upF; simp only [h', cond_false, Option.bind_some]; rfl
  | n + 1, y, e, h0, h1, h => by
    by_cases hg : fge y h15 = true
    · have e1 : lup (n + 1) y e = lup n (fdiv y two64) (e + 1) := by rw [lup]; exact if_pos hg
      rw [e1] at h ⊢
      have hg' : fge y (Fl.of .f64 4609434218613702656) = true := hg
      obtain ⟨i1, i2⟩ := up_loop n (fdiv y two64) (e + 1) (by omega) (by omega) h
      have w : IntKind.i64.wrap (e + 1) = e + 1 := wrap64 (by omega) (by omega)
      refine ⟨?_, fun g0 g1 => ?_⟩
      · rw [iter]
        have hb : upB ((y, (e, ())), ()) = some (.inl ((fdiv y two64, (e + 1, ())), ())) := by unfold upB; simp only [hg', w, cond_true]; rfl
        rw [hb]; exact i1
      · rw [iter]
        have hb : upF ((y, (fofInt .f64 e, ())), ()) = some (.inl ((fdiv y two64, (fofInt .f64 (e + 1), ())), ())) := by
          have := (iv (e := e) g0 (by omega)).2.2.1
          unfold upF; simp only [hg', cond_true]; rw [show fadd (fofInt .f64 e) (Fl.of .f64 4607182418800017408) = fofInt .f64 (e + 1) from this]; rfl
        rw [hb]; exact i2 (by omega) (by omega)
    · have e1 : lup (n + 1) y e = (y, e) := by rw [lup]; exact if_neg hg
      have hg' : fge y (Fl.of .f64 4609434218613702656) = false := Bool.eq_false_iff.2 hg
      rw [e1]
      refine ⟨?_, fun _ _ => ?_⟩
      · rw [iter]; unfold upB; simp only [hg', cond_false, Option.bind_some]
      · rw [iter]; unfold upF; simp only [hg', cond_false, Option.bind_some]

theorem dn_loop : ∀ (n : Nat) (y : Fl .f64) (e : Int), -1000 ≤ e - n → e ≤ 1000 → flt (ldn n y e).1 h34 = false → iter dnB (n + 1) ((y, (e, ())), ()) = some (((ldn n y e).1, ((ldn n y e).2, ())), ()) ∧ (-200 ≤ e - n → e ≤ 200 → iter dnF (n + 1) ((y, (fofInt .f64 e, ())), ()) = some (((ldn n y e).1, (fofInt .f64 (ldn n y e).2, ())), ()))
  | 0, y, e, _, _, h => by
    have h' : flt y (Fl.of .f64 4604930618986332160) = false := h
    refine ⟨?_, fun _ _ => ?_⟩
    · rw [iter]; unfold dnB; simp only [h', cond_false, Option.bind_some]; rfl
    · rw [iter]; unfold dnF; simp only [h', cond_false, Option.bind_some]; rfl
  | n + 1, y, e, h0, h1, h => by
    by_cases hg : flt y h34 = true
    · have e1 : ldn (n + 1) y e = ldn n (fmul y two64) (e - 1) := by rw [ldn]; exact if_pos hg
      rw [e1] at h ⊢
      have hg' : flt y (Fl.of .f64 4604930618986332160) = true := hg
      obtain ⟨i1, i2⟩ := dn_loop n (fmul y two64) (e - 1) (by omega) (by omega) h
      have w : IntKind.i64.wrap (e - 1) = e - 1 := wrap64 (by omega) (by omega)
      refine ⟨?_, fun g0 g1 => ?_⟩
      · rw [iter]
        have hb : dnB ((y, (e, ())), ()) = some (.inl ((fmul y two64, (e - 1, ())), ())) := by unfold dnB; simp only [hg', w, cond_true]; rfl
        rw [hb]; exact i1
      · rw [iter]
        have hb : dnF ((y, (fofInt .f64 e, ())), ()) = some (.inl ((fmul y two64, (fofInt .f64 (e - 1), ())), ())) := by
          have := (iv (e := e) (by omega) g1).2.2.2
          unfold dnF; simp only [hg', cond_true]; rw [show fsub (fofInt .f64 e) (Fl.of .f64 4607182418800017408) = fofInt .f64 (e - 1) from this]; rfl
        rw [hb]; exact i2 (by omega) (by omega)
    · have e1 : ldn (n + 1) y e = (y, e) := by rw [ldn]; exact if_neg hg
      have hg' : flt y (Fl.of .f64 4604930618986332160) = false := Bool.eq_false_iff.2 hg
      rw [e1]
      refine ⟨?_, fun _ _ => ?_⟩
      · rw [iter]; unfold dnB; simp only [hg', cond_false, Option.bind_some]
      · rw [iter]; unfold dnF; simp only [hg', cond_false, Option.bind_some]
end Go.Ab

/-
  The logarithm of a float32, narrowed: no conversion overflows.
-/
namespace Go.Ab
def lpB {ε : Type} (y : (ε × (Fl .f64 × (Fl .f64 × (Fl .f64 × (Int × Unit))))) × Unit) : Option (((ε × (Fl .f64 × (Fl .f64 × (Fl .f64 × (Int × Unit))))) × Unit) ⊕ ((ε × (Fl .f64 × (Fl .f64 × Unit))) × Unit)) := bif decide (y.1.2.2.2.2.1 ≥ 1) then (some (Sum.inl (((y.1.1, (y.1.2.1, (y.1.2.2.1, (fadd (fdiv (Fl.of .f64 4607182418800017408) (fofInt .f64 y.1.2.2.2.2.1)) (fmul y.1.2.2.1 y.1.2.2.2.1), (IntKind.i64.wrap (y.1.2.2.2.2.1 - 2), ()))))), ())))) else (some (Sum.inr (((y.1.1, (y.1.2.1, (y.1.2.2.2.1, ()))), ()))))
theorem lp_loop {ε : Type} (e : ε) (s u : Fl .f64) : ∀ (n : Nat) (k : Int) (q : Fl .f64), k = 2 * (n : Int) - 1 → k ≤ 100 → iter (lpB (ε := ε)) (n + 1) ((e, (s, (u, (q, (k, ()))))), ()) = some ((e, (s, (lpol u n k q, ()))), ())
  | 0, k, q, hk, _ => by
    have h1 : decide (k ≥ 1) = false := by simp; omega
    rw [iter]; unfold lpB; simp only [h1, cond_false, Option.bind_some]; rfl
  | n + 1, k, q, hk, h2 => by
    have h1 : decide (k ≥ 1) = true := by simp; omega
    have w : IntKind.i64.wrap (k - 2) = k - 2 := wrap64 (by omega) (by omega)
    have hb : lpB ((e, (s, (u, (q, (k, ()))))), ()) = some (.inl ((e, (s, (u, (lstep u q k, (k - 2, ()))))), ())) := by
      unfold lpB; simp only [h1, w, cond_true]; rfl
    rw [iter, hb]
    simp only [Option.bind_some]
    exact lp_loop e s u n (k - 2) _ (by omega) (by omega)

/-- all of the reckoning, e a whole number -/
theorem log_int {x : Fl .f64} (h1 : fge (lup 160 x 0).1 h15 = false) (h2 : flt (ldn 160 (lup 160 x 0).1 (lup 160 x 0).2).1 h34 = false) (h3 : 0 ≤ (lup 160 x 0).2) (h4 : (lup 160 x 0).2 ≤ 130) :
    (Option.bind (iter upB bigN (((x, (0, ())), ()))) fun (r6 : US) => (Option.bind (iter dnB bigN (((r6.1.1, (r6.1.2.1, ())), ()))) fun (r7 : US) => (Option.bind (iter lpB bigN (((r7.1.2.1, (fdiv (fsub r7.1.1 (Fl.of .f64 4607182418800017408)) (fadd r7.1.1 (Fl.of .f64 4607182418800017408)), (fmul (fdiv (fsub r7.1.1 (Fl.of .f64 4607182418800017408)) (fadd r7.1.1 (Fl.of .f64 4607182418800017408))) (fdiv (fsub r7.1.1 (Fl.of .f64 4607182418800017408)) (fadd r7.1.1 (Fl.of .f64 4607182418800017408))), (Fl.of .f64 0, (25, ()))))), ()))) fun (r8 : ((Int × (Fl .f64 × (Fl .f64 × Unit))) × Unit)) => (some (fadd (fmul (Fl.of .f64 4611686018427387904) (fmul r8.1.2.1 r8.1.2.2.1)) (fmul (fofInt .f64 r8.1.1) (Fl.of .f64 4604418534313441775))))))) = some (log64 x) := by
  have k1 := iter_big (up_loop 160 x 0 (by omega) (by omega) h1).1 (by omega)
  have k2 := iter_big (dn_loop 160 (lup 160 x 0).1 (lup 160 x 0).2 (by omega) (by omega) h2).1 (by omega)
  rw [k1]
  simp only [Option.bind_some]
  rw [k2]
  simp only [Option.bind_some]
  rw [iter_big (lp_loop _ _ _ 13 25 (Fl.of .f64 0) (by decide) (by decide)) (by omega)]
  rfl

theorem log_flt {x : Fl .f64} (h1 : fge (lup 160 x 0).1 h15 = false) (h2 : flt (ldn 160 (lup 160 x 0).1 (lup 160 x 0).2).1 h34 = false) (h3 : 0 ≤ (lup 160 x 0).2) (h4 : (lup 160 x 0).2 ≤ 130) :
    (Option.bind (iter upF bigN (((x, (Fl.of .f64 0, ())), ()))) fun (r6 : UF) => (Option.bind (iter dnF bigN (((r6.1.1, (r6.1.2.1, ())), ()))) fun (r7 : UF) => (Option.bind (iter lpB bigN (((r7.1.2.1, (fdiv (fsub r7.1.1 (Fl.of .f64 4607182418800017408)) (fadd r7.1.1 (Fl.of .f64 4607182418800017408)), (fmul (fdiv (fsub r7.1.1 (Fl.of .f64 4607182418800017408)) (fadd r7.1.1 (Fl.of .f64 4607182418800017408))) (fdiv (fsub r7.1.1 (Fl.of .f64 4607182418800017408)) (fadd r7.1.1 (Fl.of .f64 4607182418800017408))), (Fl.of .f64 0, (25, ()))))), ()))) fun (r8 : ((Fl .f64 × (Fl .f64 × (Fl .f64 × Unit))) × Unit)) => (some (fadd (fmul (Fl.of .f64 4611686018427387904) (fmul r8.1.2.1 r8.1.2.2.1)) (fmul r8.1.1 (Fl.of .f64 4604418534313441775))))))) = some (log64 x) := by
  have z : Fl.of .f64 0 = fofInt .f64 0 := by decide +kernel
  have k1 := iter_big ((up_loop 160 x 0 (by omega) (by omega) h1).2 (by omega) (by omega)) (by omega)
  have k2 := iter_big ((dn_loop 160 (lup 160 x 0).1 (lup 160 x 0).2 (by omega) (by omega) h2).2 (by omega) (by omega)) (by omega)
  rw [← z] at k1
  rw [k1]
  simp only [Option.bind_some]
  rw [k2]
  simp only [Option.bind_some]
  rw [iter_big (lp_loop _ _ _ 13 25 (Fl.of .f64 0) (by decide) (by decide)) (by omega)]
  rfl

theorem zero32' : fin (Fl.of .f32 0) = true ∧ val (Fl.of .f32 0) = 0 := by decide +kernel

/-- a float32 greater than 0 is neither too small nor too great -/
theorem pos32 {x : Fl .f32} (hf : fin x = true) (hp : 0 < val x) : val x ≤ ((2 ^ 128 : Nat) : Rat) ∧ 1 ≤ val x * ((2 ^ 149 : Nat) : Rat) := by
  have hv := val_eq hf
  have hn := au_nonneg x
  have hs : val x = au x := by
    rw [hv] at hp ⊢
    unfold ng at hp ⊢
    split
    · rename_i h; rw [if_pos h] at hp; grind
    · rfl
  have hB : FloatKind.f32.format.binade = 2 ^ 23 := by decide +kernel
  have hl : FloatKind.f32.format.leastPlace = -149 := by decide +kernel
  have hi : FloatKind.f32.format.infRung = 255 * 2 ^ 23 := by decide +kernel
  have hr := fin_iff.1 hf
  rw [hi] at hr
  have ua : au x = (unitOf (2 ^ 23) (x.bits % FloatKind.f32.format.signWeight) : Rat) * 2 ^ (-149 : Int) := by unfold au; rw [hB, hl]
  rw [hs, ua] at hp ⊢
  have ht : (2 : Rat) ^ (-149 : Int) * ((2 ^ 149 : Nat) : Rat) = 1 := by
    rw [← two_nat, ← two_add]; rfl
  have hu : unitOf (2 ^ 23) (x.bits % FloatKind.f32.format.signWeight) ≤ unitOf (2 ^ 23) (255 * 2 ^ 23 - 1) := unit_le (by decide) (by omega)
  have hU : unitOf (2 ^ 23) (255 * 2 ^ 23 - 1) ≤ 2 ^ 128 * 2 ^ 149 := by decide +kernel
  generalize unitOf (2 ^ 23) (x.bits % FloatKind.f32.format.signWeight) = u at hp hu ⊢
  have hu1 : 1 ≤ u := by
    rcases Nat.eq_zero_or_pos u with h | h
    · subst h; simp at hp
    · exact h
  constructor
  · have h1 : (u : Rat) ≤ ((2 ^ 128 * 2 ^ 149 : Nat) : Rat) := Rat.natCast_le_natCast.2 (by omega)
    have h2 := Rat.mul_le_mul_of_nonneg_right h1 (Rat.le_of_lt (two_pos (-149)))
    have h3 : ((2 ^ 128 * 2 ^ 149 : Nat) : Rat) * 2 ^ (-149 : Int) = ((2 ^ 128 : Nat) : Rat) := by
      rw [Rat.natCast_mul, Rat.mul_assoc, Rat.mul_comm ((2 ^ 149 : Nat) : Rat), ht, Rat.mul_one]
    rw [h3] at h2; exact h2
  · rw [Rat.mul_assoc, ht, Rat.mul_one]
    have := Rat.natCast_le_natCast.2 hu1
    simpa using this

/-- the logarithm, narrowed -/
def lnF (x : Fl .f32) : Fl .f32 := if fne x x = true then Fl.nan .f32 else if flt x (Fl.of .f32 0) = true then Fl.nan .f32 else if feq x (Fl.of .f32 0) = true then Fl.of .f32 4286578688 else if fin x = true then (fconv .f64 .f32 (log64 (fwide x))).getD (Fl.nan .f32) else x
def lwF (y : Fl .f64) : Fl .f64 := if fne y y = true then Fl.nan .f64 else if flt y (Fl.of .f64 0) = true then Fl.nan .f64 else if feq y (Fl.of .f64 0) = true then Fl.of .f64 18442240474082181120 else if fin y = true then log64 y else y
/-- where the logarithm is told -/
def lwD (y : Fl .f64) : Prop := fin y = true → 0 < val y → val y ≤ ((2 ^ 128 : Nat) : Rat) ∧ 1 ≤ val y * ((2 ^ 149 : Nat) : Rat)
instance (y : Fl .f64) : Decidable (lwD y) := inferInstanceAs (Decidable (fin y = true → 0 < val y → val y ≤ ((2 ^ 128 : Nat) : Rat) ∧ 1 ≤ val y * ((2 ^ 149 : Nat) : Rat)))
def lgD (x : Fl .f32) : Prop := fin x = true ∧ 0 < val x
instance (x : Fl .f32) : Decidable (lgD x) := inferInstanceAs (Decidable (fin x = true ∧ 0 < val x))

theorem lwD_wide (x : Fl .f32) : lwD (fwide x) := by
  intro hf hp
  rw [fin_wide] at hf
  rw [val_wide hf] at hp ⊢
  exact pos32 hf hp

/-- the narrowing of a logarithm does not overflow -/
theorem ln_conv {x : Fl .f32} (h : lgD x) : ∃ y, fconv .f64 .f32 (log64 (fwide x)) = some y := by
  obtain ⟨hf, hp⟩ := h
  have hw := fin_wide' hf
  have p := pos32 hf hp
  rw [← val_wide hf] at p
  obtain ⟨_, _, g1, g2, g3⟩ := log64_in hw 149 128 (by omega) (by omega) (by omega) p.1 p.2
  have a := iv32 (e := -150) (by omega) (by omega)
  have b := iv32 (e := 130) (by omega) (by omega)
  obtain ⟨y, c, _⟩ := conv_between (s := .f64) (d := .f32) (x := log64 (fwide x)) (L := fofInt .f32 (-150)) (U := fofInt .f32 130) g1 a.1 b.1 (by rw [a.2]; exact g2) (by rw [b.2]; exact g3)
  exact ⟨y, c⟩

theorem pos_of {k : FloatKind} {x : Fl k} (hf : fin x = true) (hz : fin (Fl.of k 0) = true ∧ val (Fl.of k 0) = 0) (h1 : ¬ flt x (Fl.of k 0) = true) (h2 : ¬ feq x (Fl.of k 0) = true) : 0 < val x := by
  rw [flt_val hf hz.1, hz.2] at h1
  rw [feq_val hf hz.1, hz.2] at h2
  have a : ¬ val x < 0 := fun h => h1 (decide_eq_true h)
  have b : ¬ val x = 0 := fun h => h2 (decide_eq_true h)
  grind

/-- the same by way of 64 bits -/
theorem ln_wide (x : Fl .f32) : fconv .f64 .f32 (lwF (fwide x)) = some (lnF x) := by
  rcases fl_cases x with hf | rfl | ⟨s, rfl, _⟩
  · have hw := fin_wide' hf
    have hv := val_wide hf
    have z := zero32'
    have e0 : fne (fwide x) (fwide x) = false := by
      rw [fne_self]
      cases hn : (fwide x).isNaN with
      | false => rfl
      | true => rw [fin_not_nan hn] at hw; cases hw
    have e0' : fne x x = false := by
      rw [fne_self]
      cases hn : x.isNaN with
      | false => rfl
      | true => rw [fin_not_nan hn] at hf; cases hf
    have e1 : flt (fwide x) (Fl.of .f64 0) = flt x (Fl.of .f32 0) := by rw [flt_val hw k0.1, flt_val hf z.1, hv, k0.2, z.2]
    have e2 : feq (fwide x) (Fl.of .f64 0) = feq x (Fl.of .f32 0) := by rw [feq_val hw k0.1, feq_val hf z.1, hv, k0.2, z.2]
    unfold lwF lnF
    rw [e0, e0', e1, e2, hw, hf]
    by_cases h1 : flt x (Fl.of .f32 0) = true
    · simp only [h1, Bool.false_eq_true, if_false, if_true]; exact fconv_nan_nan _
    · by_cases h2 : feq x (Fl.of .f32 0) = true
      · simp only [h1, h2, Bool.false_eq_true, if_false, if_true]; decide +kernel
      · simp only [h1, h2, Bool.false_eq_true, if_false, if_true]
        obtain ⟨y, hy⟩ := ln_conv ⟨hf, pos_of hf z h1 h2⟩
        rw [hy]; rfl
  · decide +kernel
  · cases s
    · have e : lnF (finf .f32 false) = finf .f32 false := by unfold lnF; rw [if_neg (by decide +kernel), if_neg (by decide +kernel), if_neg (by decide +kernel), if_neg (by decide +kernel)]
      have e' : lwF (fwide (finf .f32 false)) = finf .f64 false := by unfold lwF; rw [if_neg (by decide +kernel), if_neg (by decide +kernel), if_neg (by decide +kernel), if_neg (by decide +kernel)]; decide +kernel
      rw [e, e']; decide +kernel
    · have e : lnF (finf .f32 true) = Fl.nan .f32 := by unfold lnF; rw [if_neg (by decide +kernel), if_pos (by decide +kernel)]
      have e' : lwF (fwide (finf .f32 true)) = Fl.nan .f64 := by unfold lwF; rw [if_neg (by decide +kernel), if_pos (by decide +kernel)]
      rw [e, e']; exact fconv_nan_nan _
end Go.Ab
