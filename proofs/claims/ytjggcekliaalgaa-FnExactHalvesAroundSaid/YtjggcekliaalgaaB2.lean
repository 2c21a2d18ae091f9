/- Sines and phasors: both sides alike, and small. No condition. -/
import Derived.Test.YtjggcekliaalgaaB1
namespace Go.Proofs.Ytjggcekliaalgaa
open Go.Ab
local notation "cH" => Fl.of FloatKind.f64 4602678819172646912
local notation "cQ" => Fl.of FloatKind.f64 4598175219545276416
local notation "cO" => Fl.of FloatKind.f64 4607182418800017408
local notation "cP" => Fl.of FloatKind.f64 4618760256179416344
local notation "cZ" => Fl.of FloatKind.f64 0
local notation "cA" => Fl.of FloatKind.f64 4609997168567123968
local notation "cT" => Fl.of FloatKind.f64 4613937818241073152
theorem vH : fin cH = true ∧ val cH = 1 / 2 := by decide +kernel
theorem vQ : fin cQ = true ∧ val cQ = 1 / 4 := by decide +kernel
theorem vO : fin cO = true ∧ val cO = 1 := by decide +kernel
theorem vP : fin cP = true ∧ 0 ≤ val cP ∧ val cP ≤ 13 / 2 := by decide +kernel
theorem vZ : fin cZ = true ∧ val cZ = 0 := by decide +kernel
theorem vA : fin cA = true ∧ val cA = 13 / 8 := by decide +kernel
theorem vT : fin cT = true ∧ val cT = 3 := by decide +kernel
theorem vM : fin (Fl.of .f64 4841369599423283200) = true ∧ 1000 < val (Fl.of .f64 4841369599423283200) := by decide +kernel
theorem vN : fin (Fl.of .f64 14064741636278059008) = true ∧ val (Fl.of .f64 14064741636278059008) < 0 := by decide +kernel
theorem v2 : fin (Fl.of .f32 1073741824) = true ∧ val (Fl.of .f32 1073741824) = 2 := by decide +kernel
theorem v2n : fin (Fl.of .f32 3221225472) = true ∧ val (Fl.of .f32 3221225472) = -2 := by decide +kernel
theorem w2 : fin (Fl.of .f64 4611686018427387904) = true ∧ val (Fl.of .f64 4611686018427387904) = 2 := by decide +kernel
theorem w2n : fin (Fl.of .f64 13835058055282163712) = true ∧ val (Fl.of .f64 13835058055282163712) = -2 := by decide +kernel
def dK (i : Nat) : Fl .f64 := fofInt .f64 (IntKind.i64.wrap (IntKind.i64.wrap (2 * ((8 : Int) - (i : Int))) * IntKind.i64.wrap (IntKind.i64.wrap (2 * ((8 : Int) - (i : Int))) + 1)))
theorem dK_tab : ((List.range 8).all fun i => fin (dK i) && decide (6 ≤ val (dK i))) = true := by decide +kernel
theorem dK_ok {i : Nat} (h : i < 8) : fin (dK i) = true ∧ 6 ≤ val (dK i) := by
  have := List.all_eq_true.1 dK_tab i (List.mem_range.2 h)
  rw [Bool.and_eq_true, decide_eq_true_iff] at this
  exact this
def pF (u : Fl .f64) : Nat → Fl .f64
  | 0 => cO
  | i + 1 => fsub cO (fdiv (fmul u (pF u i)) (dK i))
theorem pF_ok {u : Fl .f64} (hu : fin u = true) (h0 : 0 ≤ val u) (h1 : val u ≤ 3) : ∀ i, i ≤ 8 → fin (pF u i) = true ∧ 0 ≤ val (pF u i) ∧ val (pF u i) ≤ 1
  | 0, _ => ⟨vO.1, by show 0 ≤ val cO; rw [vO.2]; decide, by show val cO ≤ 1; rw [vO.2]; exact Rat.le_refl⟩
  | i + 1, hi => by
    obtain ⟨p1, p2, p3⟩ := pF_ok hu h0 h1 i (by omega)
    obtain ⟨d1, d2⟩ := dK_ok (i := i) (by omega)
    show fin (fsub cO (fdiv (fmul u (pF u i)) (dK i))) = true ∧ 0 ≤ val (fsub cO (fdiv (fmul u (pF u i)) (dK i))) ∧ val (fsub cO (fdiv (fmul u (pF u i)) (dK i))) ≤ 1
    generalize pF u i = p at *
    generalize dK i = d at *
    have a1 : 0 ≤ val u * val p := Rat.mul_nonneg h0 p2
    have a2 : 0 ≤ val u * (1 - val p) := Rat.mul_nonneg h0 (by grind)
    obtain ⟨m1, m2, m3⟩ := mul_between (x := u) (y := p) hu p1 vZ.1 vT.1 (by rw [vZ.2]; exact a1) (by rw [vT.2]; grind)
    rw [vZ.2] at m2
    rw [vT.2] at m3
    obtain ⟨q1, q2, q3⟩ := div_between (x := fmul u p) (y := d) m1 d1 vZ.1 vH.1 (by grind) (by rw [vZ.2]; refine (le_div_iff' (by grind)).2 ?_; grind) (by rw [vH.2]; refine (div_le_iff' (by grind)).2 ?_; grind)
    rw [vZ.2] at q2
    rw [vH.2] at q3
    obtain ⟨r1, r2, r3⟩ := sub_between (x := cO) (y := fdiv (fmul u p) d) vO.1 q1 vZ.1 vO.1 (by rw [vZ.2, vO.2]; grind) (by rw [vO.2]; grind)
    rw [vZ.2] at r2
    rw [vO.2] at r3
    exact ⟨r1, r2, r3⟩
theorem loopW (b : Bool) (z u : Fl .f64) : iter B_wide_1 bigN ((b, (z, (u, (cO, (8, ()))))), ()) = some ((b, (z, (pF u 8, ()))), ()) := by
  have key := iter_for (B := B_wide_1) (fun i => ((b, (z, (u, (pF u i, ((8 : Int) - (i : Int), ()))))), ())) 0 8 ((b, (z, (pF u 8, ()))), ()) (by decide) (by decide) (fun i _ hi => by
    have e1 : decide ((8 : Int) - (i : Int) ≥ 1) = true := decide_eq_true (by omega)
    unfold B_wide_1
    simp only [e1, cond_true]
    rw [wrap64 (n := (8 : Int) - (i : Int) - 1) (by omega) (by omega), show (8 : Int) - (i : Int) - 1 = 8 - ((i + 1 : Nat) : Int) by omega]
    rfl) (by
    unfold B_wide_1
    rfl)
  exact key
theorem loopS (b : Bool) (z u : Fl .f64) : iter B_sine_1 bigN ((b, (z, (u, (cO, (8, ()))))), ()) = some ((b, (z, (pF u 8, ()))), ()) := loopW b z u
def sg2 (F : Fl .f64) : Fl .f64 := bif fge F cH then fsub F cH else F
def sg3 (G : Fl .f64) : Fl .f64 := bif fgt G cQ then fsub cH G else G
def sgz (F : Fl .f64) : Fl .f64 := fmul (sg3 (sg2 F)) cP
def sinV (F : Fl .f64) : Fl .f64 := bif fge F cH then fneg (fmul (sgz F) (pF (fmul (sgz F) (sgz F)) 8)) else fmul (sgz F) (pF (fmul (sgz F) (sgz F)) 8)
theorem sine_of {x F : Fl .f64} (h : behG x = some F) : d_sine x = some (sinV F) := by
  unfold d_sine sinV sgz sg3 sg2
  simp only [h, Option.bind_some]
  cases fge F cH with
  | true =>
    simp only [cond_true]
    cases fgt (fsub F cH) cQ <;> simp only [cond_true, cond_false] <;> exact (congrArg (fun z => Option.bind z _) (loopS _ _ _)).trans rfl
  | false =>
    simp only [cond_false]
    cases fgt F cQ <;> simp only [cond_true, cond_false] <;> exact (congrArg (fun z => Option.bind z _) (loopS _ _ _)).trans rfl
theorem g2_ok {F : Fl .f64} (hF : fin F = true) (h0 : 0 ≤ val F) (h1 : val F ≤ 1) : fin (sg2 F) = true ∧ 0 ≤ val (sg2 F) ∧ val (sg2 F) ≤ 1 / 2 := by
  unfold sg2
  rw [fge_val hF vH.1, vH.2]
  by_cases c : 1 / 2 ≤ val F
  · rw [decide_eq_true c, cond_true]
    obtain ⟨a1, a2, a3⟩ := sub_between (x := F) (y := cH) hF vH.1 vZ.1 vH.1 (by rw [vZ.2, vH.2]; grind) (by rw [vH.2]; grind)
    rw [vZ.2] at a2
    rw [vH.2] at a3
    exact ⟨a1, a2, a3⟩
  · rw [decide_eq_false c, cond_false]
    exact ⟨hF, h0, by grind⟩
theorem g3_ok {G : Fl .f64} (hG : fin G = true) (h0 : 0 ≤ val G) (h1 : val G ≤ 1 / 2) : fin (sg3 G) = true ∧ 0 ≤ val (sg3 G) ∧ val (sg3 G) ≤ 1 / 4 := by
  unfold sg3
  rw [fgt_val hG vQ.1, vQ.2]
  by_cases c : 1 / 4 < val G
  · rw [decide_eq_true c, cond_true]
    obtain ⟨a1, a2, a3⟩ := sub_between (x := cH) (y := G) vH.1 hG vZ.1 vQ.1 (by rw [vZ.2, vH.2]; grind) (by rw [vH.2, vQ.2]; grind)
    rw [vZ.2] at a2
    rw [vQ.2] at a3
    exact ⟨a1, a2, a3⟩
  · rw [decide_eq_false c, cond_false]
    exact ⟨hG, h0, by grind⟩
theorem gz_ok {F : Fl .f64} (hF : fin F = true) (h0 : 0 ≤ val F) (h1 : val F ≤ 1) : fin (sgz F) = true ∧ 0 ≤ val (sgz F) ∧ val (sgz F) ≤ 13 / 8 := by
  obtain ⟨a1, a2, a3⟩ := g2_ok hF h0 h1
  obtain ⟨b1, b2, b3⟩ := g3_ok a1 a2 a3
  unfold sgz
  generalize sg3 (sg2 F) = G at *
  have n1 : 0 ≤ val G * val cP := Rat.mul_nonneg b2 vP.2.1
  have n2 : 0 ≤ (1 / 4 - val G) * val cP := Rat.mul_nonneg (by grind) vP.2.1
  have n3 := vP.2.2
  obtain ⟨m1, m2, m3⟩ := mul_between (x := G) (y := cP) b1 vP.1 vZ.1 vA.1 (by rw [vZ.2]; exact n1) (by rw [vA.2]; grind)
  rw [vZ.2] at m2
  rw [vA.2] at m3
  exact ⟨m1, m2, m3⟩
theorem sinV_ok {F : Fl .f64} (hF : fin F = true) (h0 : 0 ≤ val F) (h1 : val F ≤ 1) : fin (sinV F) = true ∧ -2 ≤ val (sinV F) ∧ val (sinV F) ≤ 2 := by
  obtain ⟨a1, a2, a3⟩ := gz_ok hF h0 h1
  unfold sinV
  generalize sgz F = z at *
  have n1 : 0 ≤ val z * val z := Rat.mul_nonneg a2 a2
  have n2 : 0 ≤ val z * (13 / 8 - val z) := Rat.mul_nonneg a2 (by grind)
  obtain ⟨u1, u2, u3⟩ := mul_between (x := z) (y := z) a1 a1 vZ.1 vT.1 (by rw [vZ.2]; exact n1) (by rw [vT.2]; grind)
  rw [vZ.2] at u2
  rw [vT.2] at u3
  obtain ⟨p1, p2, p3⟩ := pF_ok u1 u2 u3 8 (Nat.le_refl _)
  generalize pF (fmul z z) 8 = p at *
  have n3 : 0 ≤ val z * val p := Rat.mul_nonneg a2 p2
  have n4 : 0 ≤ val z * (1 - val p) := Rat.mul_nonneg a2 (by grind)
  obtain ⟨m1, m2, m3⟩ := mul_between (x := z) (y := p) a1 p1 vZ.1 vA.1 (by rw [vZ.2]; exact n3) (by rw [vA.2]; grind)
  rw [vZ.2] at m2
  rw [vA.2] at m3
  cases fge F cH with
  | true =>
    obtain ⟨f1, f2⟩ := fneg_val m1
    rw [cond_true, f2]
    exact ⟨f1, by grind, by grind⟩
  | false => exact ⟨m1, by show -2 ≤ val (fmul z p); grind, by show val (fmul z p) ≤ 2; grind⟩
theorem add_zero_whole {z : Fl .f64} {N : Nat} (hN : N ≤ 1000) (hz : fin z = true) (hv : val z = (N : Rat)) : fadd z cZ = fofInt .f64 (N : Int) := by
  obtain ⟨_, f1, f2⟩ := whole_val hN
  by_cases h0 : N = 0
  · subst h0
    have ha : au z = 0 := by
      have hv : val z = 0 := hv
      rw [val_eq hz] at hv
      unfold ng at hv
      split at hv <;> grind
    have a0 : au cZ = 0 := by decide +kernel
    have hb := au_inj (x := z) (y := cZ) (by rw [ha, a0])
    have b0 : (cZ).bits % FloatKind.f64.format.signWeight = (Fl.of .f64 9223372036854775808).bits % FloatKind.f64.format.signWeight := by decide +kernel
    cases hs : sg z with
    | false =>
      rw [bits_inj hb (by rw [hs]; decide +kernel)]
      decide +kernel
    | true =>
      rw [bits_inj (hb.trans b0) (by rw [hs]; decide +kernel)]
      decide +kernel
  · obtain ⟨b1, b2, b3⟩ := add_between (x := z) (y := cZ) hz vZ.1 f1 f1 (by rw [vZ.2, f2, hv]; grind) (by rw [vZ.2, f2, hv]; grind)
    have e : val (fadd z cZ) = val (fofInt .f64 (N : Int)) := Rat.le_antisymm b3 b2
    refine val_inj b1 f1 e ?_
    rw [e, f2]
    intro h
    have h' : ((N : Nat) : Rat) = ((0 : Nat) : Rat) := h
    exact h0 (Rat.natCast_inj.1 h')
/-- what is left of a number, on both sides -/
theorem behind_both {x : Fl .f64} (hx : fin x = true) (h0 : 0 ≤ val x) (h1 : val x ≤ 1000) : ∃ (N : Nat) (F : Fl .f64), N ≤ 1000 ∧ ftoInt x .i64 = some (N : Int) ∧ F = fsub x (fofInt .f64 (N : Int)) ∧ behG x = some F ∧ fin F = true ∧ 0 ≤ val F ∧ val F ≤ 1 ∧ Go.Ab.flt F cZ = false := by
  obtain ⟨N, t1, t2, t3, t4⟩ := toInt_whole hx h0 h1
  obtain ⟨s, m, p, dx⟩ := fin_num hx
  have hd : val x = dv (.number s m p) := val_num dx
  obtain ⟨M, e1, b1, b2, hs⟩ := whole (.inr rfl : Ieee.Toward.zero = .down ∨ Ieee.Toward.zero = .zero) (s := s) (m := m) (p := p) (by rw [← hd]; exact h0)
  rw [← hd] at b1 b2
  have hNM : M = N := whole_one b1 b2 t2 t3
  subst hNM
  obtain ⟨_, f3, f4⟩ := whole_val t4
  have dN' : dv (.number s M 0) = (M : Rat) := by
    rcases hs with rfl | rfl
    · unfold dv; simp
    · unfold dv; simp
  obtain ⟨z1, z2, z3⟩ := between (k := .f64) s M 0 f3 f3 (by rw [f4, dN']; exact Rat.le_refl) (by rw [f4, dN']; exact Rat.le_refl)
  rw [f4] at z2 z3
  have zv : val (Fl.of .f64 (FloatKind.f64.format.write (.number s M 0))) = (M : Rat) := Rat.le_antisymm z3 z2
  have ht : truncAG x = some (Fl.of .f64 (FloatKind.f64.format.write (.number s M 0))) := by
    unfold truncAG fint
    rw [fin_nanB hx, cond_false, show FloatKind.f64.decode x.bits = _ from dx, e1]
    rfl
  have ha := add_zero_whole t4 z1 zv
  obtain ⟨F1, F2, F3⟩ := sub_between (x := x) (y := fofInt .f64 (M : Int)) hx f3 vZ.1 vO.1 (by rw [vZ.2, f4]; grind) (by rw [vO.2, f4]; grind)
  rw [vZ.2] at F2
  rw [vO.2] at F3
  have hlt : Go.Ab.flt (fsub x (fofInt .f64 (M : Int))) cZ = false := by
    rw [flt_val F1 vZ.1, vZ.2]
    exact decide_eq_false (by grind)
  refine ⟨M, _, t4, t1, rfl, ?_, F1, F2, F3, hlt⟩
  unfold behG d_behind
  simp only [ht, Option.bind_some, ha, hlt, cond_false]
theorem guards {x : Fl .f64} (hx : fin x = true) (h0 : 0 ≤ val x) (h1 : val x ≤ 1000) : fne (fsub x x) cZ = false ∧ fge x (Fl.of .f64 4841369599423283200) = false ∧ fle x (Fl.of .f64 14064741636278059008) = false := by
  refine ⟨?_, ?_, ?_⟩
  · show (!feq (fsub x x) cZ) = false
    rw [feq_sub_self, hx]; rfl
  · rw [fge_val hx vM.1]
    have := vM.2
    exact decide_eq_false (by grind)
  · rw [fle_val hx vN.1]
    have := vN.2
    exact decide_eq_false (by grind)
theorem wide_of {x : Fl .f64} (hx : fin x = true) (h0 : 0 ≤ val x) (h1 : val x ≤ 1000) : ∃ F, behG x = some F ∧ fin F = true ∧ 0 ≤ val F ∧ val F ≤ 1 ∧ d_wide x = some (sinV F) := by
  obtain ⟨N, F, hN, e1, e2, e3, e4, e5, e6, e7⟩ := behind_both hx h0 h1
  obtain ⟨c1, c2, c3⟩ := guards hx h0 h1
  refine ⟨F, e3, e4, e5, e6, ?_⟩
  unfold d_wide
  simp only [c1, c2, c3, cond_false, e1, Option.bind_some]
  rw [← e2]
  simp only [e7, cond_false]
  unfold sinV sgz sg3 sg2
  cases hh : fge F cH with
  | true =>
    simp only [cond_true]
    cases fgt (fsub F cH) cQ <;> simp only [cond_true, cond_false] <;> exact (congrArg (fun z => Option.bind z _) (loopW _ _ _)).trans rfl
  | false =>
    simp only [cond_false]
    cases fgt F cQ <;> simp only [cond_true, cond_false] <;> exact (congrArg (fun z => Option.bind z _) (loopW _ _ _)).trans rfl
/-- the sine of a number that is not great: both sides alike -/
theorem sine_both {x : Fl .f64} (hx : fin x = true) (h0 : 0 ≤ val x) (h1 : val x ≤ 1000) : ∃ y, sineG x = some y ∧ wideG x = some y ∧ fin y = true ∧ -2 ≤ val y ∧ val y ≤ 2 := by
  obtain ⟨F, e1, e2, e3, e4, e5⟩ := wide_of hx h0 h1
  exact ⟨sinV F, sine_of e1, e5, sinV_ok e2 e3 e4⟩
theorem narrow {y : Fl .f64} (h : fin y = true) (h0 : -2 ≤ val y) (h1 : val y ≤ 2) : ∃ z, fconv .f64 .f32 y = some z := by
  obtain ⟨z, e, _⟩ := conv_between (s := .f64) (d := .f32) h v2n.1 v2.1 (by rw [v2n.2]; exact h0) (by rw [v2.2]; exact h1)
  exact ⟨z, e⟩
end Go.Proofs.Ytjggcekliaalgaa
