/-
  Speeds are finite; what the time for a share asks of the exponential is in its range.
-/
import Derived.Test.YtjggcekliaalgaaLF
import Derived.Test.YtjggcekliaalgaaLE
namespace Go.Ab

theorem estep_in1 {t p : Fl .f64} {k : Nat} (ht : fin t = true) (t1 : -25 / 32 ≤ val t) (t2 : val t ≤ 0) (hp : In p 1) (h1 : 1 ≤ k) (h2 : k ≤ 12) : In (estep t p k) 1 := by
  have p0 := hp.lo
  have p1 := hp.hi
  have a1 : 0 ≤ (0 - val t) * val p := Rat.mul_nonneg (by grind) p0
  have a2 : 0 ≤ (val t + 25 / 32) * val p := Rat.mul_nonneg (by grind) p0
  have m := mul_between (x := t) (y := p) (L := Fl.of .f64 13830554455654793216) (U := Fl.of .f64 0) ht hp.fin km1.1 k0.1 (by rw [km1.2]; grind) (by rw [k0.2]; grind)
  rw [km1.2, k0.2] at m
  obtain ⟨m0, m1, m2⟩ := m
  obtain ⟨f1, f2⟩ := ofInt_val ⟨k, by omega⟩
  simp only at f1 f2
  have hk : (1 : Rat) ≤ (k : Rat) := by
    have := Rat.natCast_le_natCast.2 h1
    simpa using this
  have d := div_between (x := fmul t p) (y := fofInt .f64 (k : Int)) (L := Fl.of .f64 13830554455654793216) (U := Fl.of .f64 0) m0 f1 km1.1 k0.1 (by rw [f2]; grind) (by rw [km1.2, f2, le_div_iff' (by grind)]; grind) (by rw [k0.2, f2, div_le_iff' (by grind)]; grind)
  rw [km1.2, k0.2] at d
  obtain ⟨d0, d1, d2⟩ := d
  have a := add_between (x := one64) (y := fdiv (fmul t p) (fofInt .f64 (k : Int))) (L := Fl.of .f64 0) (U := one64) k1.1 d0 k0.1 k1.1 (by rw [k0.2, k1.2]; grind) (by rw [k1.2]; grind)
  rw [k0.2, k1.2] at a
  exact ⟨a.1, a.2.1, a.2.2⟩

theorem epoly_in1 {t : Fl .f64} (ht : fin t = true) (t1 : -25 / 32 ≤ val t) (t2 : val t ≤ 0) : ∀ (k : Nat) (p : Fl .f64), k ≤ 12 → In p 1 → In (epoly t k p) 1
  | 0, p, _, hp => hp
  | k + 1, p, hk, hp => epoly_in1 ht t1 t2 k _ (by omega) (estep_in1 ht t1 t2 hp (by omega) hk)

theorem esq_in1 : ∀ (n : Nat) (p : Fl .f64), In p 1 → In (esq n p) 1
  | 0, p, hp => hp
  | n + 1, p, hp => esq_in1 n (fmul p p) (sq_in hp (by decide +kernel) one64 k1)

theorem exp64_in1 {x : Fl .f64} (hx : fin x = true) (h1 : -200 ≤ val x) (h2 : val x ≤ 0) : In (exp64 x) 1 := by
  have L : fin (Fl.of .f64 13828584130817818624) = true ∧ val (Fl.of .f64 13828584130817818624) = -25 / 32 := by decide +kernel
  have d := div_between (x := x) (y := Fl.of .f64 4643211215818981376) (L := Fl.of .f64 13828584130817818624) (U := Fl.of .f64 0) hx k256.1 L.1 k0.1 (by rw [k256.2]; decide) (by rw [L.2, k256.2, le_div_iff' (by decide)]; grind) (by rw [k0.2, k256.2, div_le_iff' (by decide)]; grind)
  rw [L.2, k0.2] at d
  exact esq_in1 8 _ (epoly_in1 d.1 d.2.1 d.2.2 12 one64 (by omega) ⟨k1.1, by rw [k1.2]; decide +kernel, by rw [k1.2]; exact Rat.le_refl⟩)

theorem oneF : fin (Fl.of .f32 1065353216) = true ∧ val (Fl.of .f32 1065353216) = 1 := by decide +kernel

/-- the exponential of what is finite and not above 0, or minus infinity, is a number from 0 to 1 -/
theorem expF_in1 {x : Fl .f32} (h : (fin x = true ∧ val x ≤ 0) ∨ x = finf .f32 true) : fin (expF x) = true ∧ 0 ≤ val (expF x) ∧ val (expF x) ≤ 1 := by
  have z := zero32'
  rcases h with ⟨hf, h0⟩ | rfl
  · have h1 : ¬ fgt x (Fl.of .f32 1128792064) = true := by
      rw [fgt_val hf c200.1, c200.2.1]; simp; grind
    by_cases h2 : flt x (Fl.of .f32 3276275712) = true
    · unfold expF; rw [if_neg h1, if_pos h2, z.2]; exact ⟨z.1, Rat.le_refl, by decide +kernel⟩
    · have e : expF x = (fconv .f64 .f32 (exp64 (fwide x))).getD (Fl.nan .f32) := by unfold expF; rw [if_neg h1, if_neg h2]
      have hw := fin_wide' hf
      have hv := val_wide hf
      rw [flt_val hf cm200.1, cm200.2.1] at h2
      have v2 : -200 ≤ val x := by
        have : ¬ val x < -200 := fun h => h2 (decide_eq_true h)
        grind
      have i := exp64_in1 hw (by rw [hv]; exact v2) (by rw [hv]; exact h0)
      obtain ⟨y, c1, c2, c3, c4⟩ := conv_between (s := .f64) (d := .f32) (x := exp64 (fwide x)) (L := Fl.of .f32 0) (U := Fl.of .f32 1065353216) i.fin z.1 oneF.1 (by rw [z.2]; exact i.lo) (by rw [oneF.2]; exact i.hi)
      rw [e, c1]
      rw [z.2] at c3
      rw [oneF.2] at c4
      exact ⟨c2, c3, c4⟩
  · have e : expF (finf .f32 true) = Fl.of .f32 0 := by unfold expF; rw [if_neg (by decide +kernel), if_pos (by decide +kernel)]
    rw [e, z.2]
    exact ⟨z.1, Rat.le_refl, by decide +kernel⟩

theorem not_nan_word {k : FloatKind} (s : Bool) {r : Nat} (h : r ≤ k.format.infRung) : Fl.of k (k.format.word s r) ≠ Fl.nan k := by
  intro e
  have h1 : nanB k (Fl.of k (k.format.word s r)).bits = false := by
    rw [Fl.of_bits (word_facts s h).2.2, nan_canon]; exact word_no_nan s h
  rw [e] at h1
  have : nanB k (Fl.nan k).bits = true := nan_bits
  rw [this] at h1; cases h1

theorem write_word {k : FloatKind} (s : Bool) (m : Nat) (e : Int) : ∃ R, k.format.write (.number s m e) = k.format.word s R ∧ R ≤ k.format.infRung := by
  show ∃ R, k.format.nearest s m e = k.format.word s R ∧ R ≤ k.format.infRung
  unfold Ieee.Format.nearest
  split
  · exact ⟨0, rfl, Nat.zero_le _⟩
  · exact ⟨_, rfl, Nat.min_le_right _ _⟩

/-- a square of what is no NaN: not negative, or plus infinity -/
theorem sq_form {q : Fl .f32} (h : q ≠ Fl.nan .f32) : (fin (fmul q q) = true ∧ 0 ≤ val (fmul q q)) ∨ fmul q q = finf .f32 false := by
  rcases fl_cases q with hf | rfl | ⟨s, rfl, _⟩
  · obtain ⟨s, m, i, dx⟩ := fin_num hf
    have e : fmul q q = Fl.of .f32 (FloatKind.f32.format.write (.number (s ^^ s) (m * m) (i + i))) := by
      show Fl.res .f32 (((FloatKind.f32.format.read q.bits).product (FloatKind.f32.format.read q.bits)).map FloatKind.f32.format.write) = _
      rw [dx]; rfl
    obtain ⟨R, hw, hR⟩ := write_word (k := .f32) (s ^^ s) (m * m) (i + i)
    rw [e]
    rcases Nat.lt_or_ge R FloatKind.f32.format.infRung with h1 | h1
    · have hfin : fin (Fl.of .f32 (FloatKind.f32.format.write (.number (s ^^ s) (m * m) (i + i)))) = true := by rw [hw]; exact (of_word _ h1).1
      exact .inl ⟨hfin, write_nn (.inl (by cases s <;> rfl)) hfin⟩
    · right
      have : R = FloatKind.f32.format.infRung := by omega
      rw [hw, this, show (s ^^ s) = false by cases s <;> rfl]; rfl
  · exact absurd rfl h
  · right; cases s <;> decide +kernel

theorem sub_no_nan {k : FloatKind} {x y : Fl k} (hx : fin x = true) (hy : fin y = true) : fsub x y ≠ Fl.nan k := by
  obtain ⟨s, m, i, dx⟩ := fin_num hx
  obtain ⟨t, n, j, dy⟩ := fin_num hy
  have e : fsub x y = Fl.res k (((k.format.read x.bits).sum (k.format.read y.bits).opposite).map k.format.write) := rfl
  rw [e, dx, dy]
  show Fl.of k (k.format.write (.number _ _ _)) ≠ _
  obtain ⟨R, hw, hR⟩ := write_word (k := k) (if Ieee.signed s m (i - min i j).toNat + Ieee.signed (!t) n (j - min i j).toNat = 0 then s && !t else decide (Ieee.signed s m (i - min i j).toNat + Ieee.signed (!t) n (j - min i j).toNat < 0)) (Ieee.signed s m (i - min i j).toNat + Ieee.signed (!t) n (j - min i j).toNat).natAbs (min i j)
  rw [hw]
  exact not_nan_word _ hR

theorem div_no_nan {x y : Fl .f32} (hx : x ≠ Fl.nan .f32) (hy : fin y = true) (h0 : val y ≠ 0) : fdiv x y ≠ Fl.nan .f32 := by
  obtain ⟨t, n, j, dy⟩ := fin_num hy
  have hn0 : n ≠ 0 := by intro h; subst h; rw [val_num dy] at h0; exact h0 (by unfold dv; simp)
  have e : ∀ x : Fl .f32, fdiv x y = Fl.res .f32 (((FloatKind.f32.format.read x.bits).quotient (FloatKind.f32.format.fractionBits + 2) (FloatKind.f32.format.read y.bits)).map FloatKind.f32.format.write) := fun _ => rfl
  rcases fl_cases x with hf | rfl | ⟨s, rfl, hr⟩
  · obtain ⟨s, m, i, dx⟩ := fin_num hf
    rw [e, dx, dy]
    unfold Ieee.Datum.quotient
    simp only [if_neg hn0]
    show Fl.of .f32 (FloatKind.f32.format.write (.number _ _ _)) ≠ _
    obtain ⟨R, hw, hR⟩ := write_word (k := .f32) (s ^^ t) (2 * (m <<< (FloatKind.f32.format.fractionBits + 2 + n.log2 - m.log2) / n) + (m <<< (FloatKind.f32.format.fractionBits + 2 + n.log2 - m.log2) % n != 0).toNat) (i - j - (FloatKind.f32.format.fractionBits + 2 + n.log2 - m.log2 : Nat) - 1)
    rw [hw]
    exact not_nan_word _ hR
  · exact absurd rfl hx
  · rw [e, hr, dy]
    show Fl.of .f32 (FloatKind.f32.format.word (s ^^ t) FloatKind.f32.format.infRung) ≠ _
    exact not_nan_word _ (Nat.le_refl _)

/-- a quotient by a number that is a number: so is what is divided -/
theorem div_fin_left {x y : Fl .f32} (hy : fin y = true) (h : fin (fdiv x y) = true) : fin x = true := by
  obtain ⟨t, n, j, dy⟩ := fin_num hy
  have e : fdiv x y = Fl.res .f32 (((FloatKind.f32.format.read x.bits).quotient (FloatKind.f32.format.fractionBits + 2) (FloatKind.f32.format.read y.bits)).map FloatKind.f32.format.write) := rfl
  rcases fl_cases x with hf | rfl | ⟨s, _, hr⟩
  · exact hf
  · rw [div_nan_left, fin_nan] at h; cases h
  · rw [e, hr, dy] at h
    have : fin (Fl.of .f32 (FloatKind.f32.format.word (s ^^ t) FloatKind.f32.format.infRung)) = false := not_fin_word _ (Nat.le_refl _) (by decide +kernel)
    rw [show Fl.res .f32 ((Ieee.Datum.quotient (FloatKind.f32.format.fractionBits + 2) (.infinity s) (.number t n j)).map FloatKind.f32.format.write) = Fl.of .f32 (FloatKind.f32.format.word (s ^^ t) FloatKind.f32.format.infRung) from rfl, this] at h
    cases h

/-- below 1 there is a greatest number -/
theorem below_one {m : Fl .f32} (hf : fin m = true) (h0 : 0 < val m) (h1 : val m < 1) : val m ≤ 1 - 1 / 16777216 := by
  have hs : ∀ x : Fl .f32, fin x = true → 0 < val x → val x = au x := by
    intro x hx hp
    rw [val_eq hx] at hp ⊢
    have := au_nonneg x
    unfold ng at hp ⊢
    split
    · rename_i h; rw [if_pos h] at hp; grind
    · rfl
  have k1 := hs m hf h0
  have k2 := hs (Fl.of .f32 1065353216) oneF.1 (by rw [oneF.2]; decide +kernel)
  rw [oneF.2] at k2
  rw [k1, k2] at h1
  have hB : 0 < FloatKind.f32.format.binade := by decide +kernel
  have hr : (Fl.of .f32 1065353216).bits % FloatKind.f32.format.signWeight = 1065353216 := by decide +kernel
  have hlt : m.bits % FloatKind.f32.format.signWeight < 1065353216 := by
    rcases Nat.lt_or_ge (m.bits % FloatKind.f32.format.signWeight) 1065353216 with h | h
    · exact h
    · exfalso
      have h2 := unit_le hB h
      have h3 := Rat.mul_le_mul_of_nonneg_right (Rat.natCast_le_natCast.2 h2) (Rat.le_of_lt (two_pos FloatKind.f32.format.leastPlace))
      unfold au at h1
      rw [hr] at h1
      grind
  have h2 := unit_le hB (show m.bits % FloatKind.f32.format.signWeight ≤ 1065353215 by omega)
  have h3 := Rat.mul_le_mul_of_nonneg_right (Rat.natCast_le_natCast.2 h2) (Rat.le_of_lt (two_pos FloatKind.f32.format.leastPlace))
  have h4 : (unitOf FloatKind.f32.format.binade 1065353215 : Rat) * 2 ^ FloatKind.f32.format.leastPlace = 1 - 1 / 16777216 := by decide +kernel
  rw [h4] at h3
  rw [k1]; exact h3

theorem tiny : fin (Fl.of .f32 864026624) = true ∧ val (Fl.of .f32 864026624) = 1 / 16777216 := by decide +kernel

/-- what the time for a share asks of the exponential -/
theorem time_exp {m : Fl .f32} (hf : fin m = true) (h0 : 0 < val m) (h1 : val m < 1) {n : Int} (n1 : 1 ≤ n) (n2 : n ≤ 4) : expD (fdiv (lnF (fneg (lnF (fsub (Fl.of .f32 1065353216) m)))) (fofInt .f32 n)) := by
  intro hfin
  have z := zero32'
  have hb := below_one hf h0 h1
  have nv := iv32 (e := n) (by omega) (by omega)
  have y := sub_between (x := Fl.of .f32 1065353216) (y := m) (L := Fl.of .f32 864026624) (U := Fl.of .f32 1065353216) oneF.1 hf tiny.1 oneF.1 (by rw [tiny.2, oneF.2]; grind) (by rw [oneF.2]; grind)
  rw [tiny.2, oneF.2] at y
  generalize fsub (Fl.of .f32 1065353216) m = s at y hfin ⊢
  obtain ⟨y0, y1, y2⟩ := y
  have lnv : ∀ (w : Fl .f32) (j k : Nat), 1 ≤ j → j < 150 → k < 130 → fin w = true → 0 < val w → val w ≤ ((2 ^ k : Nat) : Rat) → 1 ≤ val w * ((2 ^ j : Nat) : Rat) → fin (lnF w) = true ∧ ((-(j : Int) - 1 : Int) : Rat) ≤ val (lnF w) ∧ val (lnF w) ≤ (((k : Int) + 2 : Int) : Rat) := by
    intro w j k a1 a2 a3 wf wp w1 w2
    have ww := fin_wide' wf
    have wv := val_wide wf
    obtain ⟨_, _, g1, g2, g3⟩ := log64_in (x := fwide w) ww j k a1 a2 a3 (by rw [wv]; exact w1) (by rw [wv]; exact w2)
    have a := iv32 (e := -(j : Int) - 1) (by omega) (by omega)
    have b := iv32 (e := (k : Int) + 2) (by omega) (by omega)
    obtain ⟨v, c, c1, c2, c3⟩ := conv_between (s := .f64) (d := .f32) (x := log64 (fwide w)) (L := fofInt .f32 (-(j : Int) - 1)) (U := fofInt .f32 ((k : Int) + 2)) g1 a.1 b.1 (by rw [a.2]; exact g2) (by rw [b.2]; exact g3)
    rw [a.2] at c2
    rw [b.2] at c3
    have e0 : fne w w = false := by
      rw [fne_self]
      cases hn : w.isNaN with
      | false => rfl
      | true => rw [fin_not_nan hn] at wf; cases wf
    have e1 : flt w (Fl.of .f32 0) = false := by rw [flt_val wf z.1, z.2]; exact decide_eq_false (by grind)
    have e2 : feq w (Fl.of .f32 0) = false := by rw [feq_val wf z.1, z.2]; exact decide_eq_false (by grind)
    have e : lnF w = v := by
      unfold lnF
      rw [e0, e1, e2, wf, c]
      rfl
    rw [e]
    exact ⟨c1, c2, c3⟩
  have yp : 0 < val s := by grind
  have h24 : ((2 ^ 24 : Nat) : Rat) = 16777216 := rfl
  have h20 : ((2 ^ 0 : Nat) : Rat) = 1 := rfl
  obtain ⟨r0, r1, r2⟩ := lnv s 24 0 (by omega) (by omega) (by omega) y0 yp (by rw [h20]; exact y2) (by rw [h24]; grind)
  have r1' : -25 ≤ val (lnF s) := r1
  generalize lnF s = r at r0 r1' r2 hfin ⊢
  obtain ⟨f0, f1⟩ := fneg_val r0
  have fz : val (fneg r) ≤ 25 := by rw [f1]; grind
  generalize fneg r = w at f0 fz hfin ⊢
  have wf := div_fin_left nv.1 hfin
  have wp : 0 < val w := by
    have e0 : fne w w = false := by
      rw [fne_self]
      cases hn : w.isNaN with
      | false => rfl
      | true => rw [fin_not_nan hn] at f0; cases f0
    refine pos_of f0 z (fun h => ?_) (fun h => ?_)
    · unfold lnF at wf; rw [e0, if_neg (by decide), if_pos h, fin_nan] at wf; cases wf
    · unfold lnF at wf
      have hl : flt w (Fl.of .f32 0) = false := by
        rw [feq_val f0 z.1, z.2] at h
        rw [flt_val f0 z.1, z.2]
        have := of_decide_eq_true h
        exact decide_eq_false (by grind)
      rw [e0, hl, if_neg (by decide), if_neg (by decide), if_pos h] at wf
      exact absurd wf (by decide +kernel)
  have p := pos32 f0 wp
  have h25 : ((2 ^ 5 : Nat) : Rat) = 32 := rfl
  obtain ⟨u0, u1, u2⟩ := lnv w 149 5 (by omega) (by omega) (by omega) f0 wp (by rw [h25]; grind) p.2
  have u1' : -150 ≤ val (lnF w) := u1
  have u2' : val (lnF w) ≤ 7 := u2
  generalize lnF w = v at u0 u1' u2' hfin ⊢
  have hn : (1 : Rat) ≤ (n : Rat) := by have := Rat.intCast_le_intCast.2 n1; simpa using this
  have a := iv32 (e := -150) (by omega) (by omega)
  have b := iv32 (e := 8) (by omega) (by omega)
  have a2 : val (fofInt .f32 (-150)) = -150 := a.2
  have b2 : val (fofInt .f32 8) = 8 := b.2
  have nv2 := nv.2
  have nf := nv.1
  generalize fofInt .f32 n = nn at nf nv2 hfin ⊢
  have d := div_between (x := v) (y := nn) (L := fofInt .f32 (-150)) (U := fofInt .f32 8) u0 nf a.1 b.1 (by rw [nv2]; grind) (by rw [a2, nv2, le_div_iff' (by grind)]; grind) (by rw [b2, nv2, div_le_iff' (by grind)]; grind)
  rw [b2] at d
  exact d.2.2
end Go.Ab

/-
  Numbers that are told by their values; products of what is not negative.
-/
namespace Go.Ab

section
variable {k : FloatKind}
theorem au_inj {x y : Fl k} (h : au x = au y) : x.bits % k.format.signWeight = y.bits % k.format.signWeight := by
  have hB : 0 < k.format.binade := by cases k <;> decide +kernel
  unfold au at h
  have hp := two_pos k.format.leastPlace
  rcases Nat.lt_trichotomy (x.bits % k.format.signWeight) (y.bits % k.format.signWeight) with h1 | h1 | h1
  · have := Rat.mul_lt_mul_of_pos_right (Rat.natCast_lt_natCast.2 (unit_lt hB h1)) hp
    rw [h] at this; exact absurd this (Rat.lt_irrefl)
  · exact h1
  · have := Rat.mul_lt_mul_of_pos_right (Rat.natCast_lt_natCast.2 (unit_lt hB h1)) hp
    rw [h] at this; exact absurd this (Rat.lt_irrefl)

theorem bits_inj {x y : Fl k} (h1 : x.bits % k.format.signWeight = y.bits % k.format.signWeight) (h2 : sg x = sg y) : x = y := by
  obtain ⟨_, _, hw3, hw⟩ := fmt_facts (k := k)
  have hx := x.lt
  have hy := y.lt
  rw [← hw] at hx hy
  have hp : 0 < k.format.signWeight := by omega
  have a1 := Nat.div_add_mod x.bits k.format.signWeight
  have a2 := Nat.div_add_mod y.bits k.format.signWeight
  have b1 : x.bits / k.format.signWeight < 2 := Nat.div_lt_of_lt_mul (by omega)
  have b2 : y.bits / k.format.signWeight < 2 := Nat.div_lt_of_lt_mul (by omega)
  unfold sg at h2
  rw [Nat.mod_eq_of_lt b1, Nat.mod_eq_of_lt b2] at h2
  refine Fl.ext ?_
  have e : x.bits / k.format.signWeight = y.bits / k.format.signWeight := by
    generalize x.bits / k.format.signWeight = a at *
    generalize y.bits / k.format.signWeight = b at *
    have ha : a = 0 ∨ a = 1 := by omega
    have hb : b = 0 ∨ b = 1 := by omega
    rcases ha with rfl | rfl <;> rcases hb with rfl | rfl <;> first | rfl | exact absurd h2 (by decide)
  rw [← a1, ← a2, e, h1]

theorem val_inj {x y : Fl k} (hx : fin x = true) (hy : fin y = true) (h : val x = val y) (h0 : val x ≠ 0) : x = y := by
  have ax := au_nonneg x
  have ay := au_nonneg y
  have e : sg x = sg y ∧ au x = au y := by
    rw [val_eq hx] at h0
    rw [val_eq hx, val_eq hy] at h
    unfold ng at h h0
    cases hsx : sg x <;> cases hsy : sg y <;> simp only [hsx, hsy, if_true, Bool.false_eq_true, if_false] at h h0
    · exact ⟨rfl, h⟩
    · exfalso; grind
    · exfalso; grind
    · exact ⟨rfl, by grind⟩
  exact bits_inj (au_inj e.2) e.1
end

/-- not negative: a number or plus infinity -/
def PN (x : Fl .f32) : Prop := (fin x = true ∧ 0 ≤ val x) ∨ x = finf .f32 false

theorem mul_form {x y : Fl .f32} (hx : fin x = true) (hy : fin y = true) (h1 : 0 ≤ val x) (h2 : 0 ≤ val y) : PN (fmul x y) := by
  cases hf : fin (fmul x y) with
  | true => exact .inl ⟨hf, NN.mul (fun _ => h1) (fun _ => h2) hf⟩
  | false =>
    right
    obtain ⟨s, m, i, dx⟩ := fin_num hx
    obtain ⟨t, n, j, dy⟩ := fin_num hy
    have e : fmul x y = Fl.of .f32 (FloatKind.f32.format.write (.number (s ^^ t) (m * n) (i + j))) := by
      show Fl.res .f32 (((FloatKind.f32.format.read x.bits).product (FloatKind.f32.format.read y.bits)).map FloatKind.f32.format.write) = _
      rw [dx, dy]; rfl
    obtain ⟨R, hw, hR⟩ := write_word (k := .f32) (s ^^ t) (m * n) (i + j)
    rcases Nat.lt_or_ge R FloatKind.f32.format.infRung with h3 | h3
    · rw [e, hw, (of_word _ h3).1] at hf; cases hf
    · have hR' : R = FloatKind.f32.format.infRung := by omega
      have hz : m * n ≠ 0 := by
        intro hz
        have : FloatKind.f32.format.write (.number (s ^^ t) (m * n) (i + j)) = FloatKind.f32.format.word (s ^^ t) 0 := by
          rw [hz]; show FloatKind.f32.format.nearest _ 0 _ = _
          unfold Ieee.Format.nearest; rw [if_pos rfl]
        rw [e, this, (of_word _ (by decide +kernel)).1] at hf; cases hf
      rw [val_num dx] at h1
      rw [val_num dy] at h2
      have hs : s = false := by
        rcases dv_nonneg h1 with h | h
        · exact h
        · exact absurd (by rw [h, Nat.zero_mul]) hz
      have ht : t = false := by
        rcases dv_nonneg h2 with h | h
        · exact h
        · exact absurd (by rw [h, Nat.mul_zero]) hz
      rw [e, hw, hR', hs, ht]; rfl

theorem mul_inf {y : Fl .f32} (hy : fin y = true) (h : 0 < val y) : fmul (finf .f32 false) y = finf .f32 false := by
  obtain ⟨t, n, j, dy⟩ := fin_num hy
  have hn0 : n ≠ 0 := by intro h'; subst h'; rw [val_num dy] at h; unfold dv at h; simp at h
  have ht : t = false := by
    rw [val_num dy] at h
    rcases dv_nonneg (Rat.le_of_lt h) with h | h
    · exact h
    · exact absurd h hn0
  have hr : FloatKind.f32.format.read (finf .f32 false).bits = .infinity false := by decide +kernel
  show Fl.res .f32 (((FloatKind.f32.format.read (finf .f32 false).bits).product (FloatKind.f32.format.read y.bits)).map FloatKind.f32.format.write) = _
  rw [hr, dy]
  unfold Ieee.Datum.product
  simp only [if_neg hn0, ht]
  rfl

theorem fneg_pn {x : Fl .f32} (h : PN x) : (fin (fneg x) = true ∧ val (fneg x) ≤ 0) ∨ fneg x = finf .f32 true := by
  rcases h with ⟨h1, h2⟩ | rfl
  · obtain ⟨f1, f2⟩ := fneg_val h1
    exact .inl ⟨f1, by rw [f2]; grind⟩
  · right; decide +kernel
end Go.Ab

/-
  Loops that count and may stop: what is known of the rounds before.
-/
namespace Go.Ab
/-- As 'iter_find'', and in each round it is known that no round before has stopped. -/
theorem iter_find2 {α ρ : Type} {B : α → Option (α ⊕ ρ)} (S : Nat → α) (i n : Nat) (stop : Nat → Option ρ) (last : ρ) (hin : i ≤ n) (hn : n < 2 ^ 62) (h1 : ∀ j, i ≤ j → j < n → (∀ l, i ≤ l → l < j → stop l = none) → B (S j) = some (match stop j with | some r => .inr r | none => .inl (S (j + 1)))) (h2 : (∀ l, i ≤ l → l < n → stop l = none) → B (S n) = some (.inr last)) :
    iter B bigN (S i) = some ((firstOf stop (n - i) i).getD last) := by
  refine iter_big (n := (n - i) + 1) ?_ (by omega)
  have key : ∀ m j, i ≤ j → j + m = n → (∀ l, i ≤ l → l < j → stop l = none) → iter B (m + 1) (S j) = some ((firstOf stop m j).getD last) := by
    intro m
    induction m with
    | zero => intro j hj h hb; have : j = n := by omega
              subst this; rw [iter, h2 hb]; rfl
    | succ m ih =>
      intro j hj h hb
      rw [iter, h1 j hj (by omega) hb]
      simp only [Option.bind_some]
      unfold firstOf
      cases hs : stop j with
      | some r => rfl
      | none => exact ih (j + 1) (by omega) (by omega) (fun l hl1 hl2 => by
          by_cases e : l = j
          · rw [e]; exact hs
          · exact hb l hl1 (by omega))
  exact key (n - i) i (Nat.le_refl _) (by omega) (fun l h1 h2 => by omega)

theorem none_of {ρ : Type} {p : Bool} {r : ρ} (h : (if p = true then none else some r) = (none : Option ρ)) : p = true := by
  cases p
  · simp at h
  · rfl
end Go.Ab

/-
  Sums and quotients of what is not negative.
-/
namespace Go.Ab
theorem signed_nonneg {s : Bool} {m d : Nat} (h : s = false ∨ m = 0) : 0 ≤ Ieee.signed s m d := by
  unfold Ieee.signed
  rcases h with rfl | rfl
  · simp only [Bool.false_eq_true, if_false]; exact Int.natCast_nonneg _
  · cases s <;> simp

theorem NN.add {x y : Fl .f32} (hx : fin x = true) (hy : fin y = true) (h0 : 0 ≤ val x) (h1 : 0 ≤ val y) : NN (fadd x y) := by
  obtain ⟨s, m, i, dx⟩ := fin_num hx
  obtain ⟨t, n, j, dy⟩ := fin_num hy
  rw [val_num dx] at h0
  rw [val_num dy] at h1
  have e : fadd x y = Fl.res .f32 (((FloatKind.f32.format.read x.bits).sum (FloatKind.f32.format.read y.bits)).map FloatKind.f32.format.write) := rfl
  rw [e, dx, dy]
  have a := signed_nonneg (d := (i - min i j).toNat) (dv_nonneg h0)
  have b := signed_nonneg (d := (j - min i j).toNat) (dv_nonneg h1)
  refine write_nn (s := if Ieee.signed s m (i - min i j).toNat + Ieee.signed t n (j - min i j).toNat = 0 then s && t else decide (Ieee.signed s m (i - min i j).toNat + Ieee.signed t n (j - min i j).toNat < 0)) (m := (Ieee.signed s m (i - min i j).toNat + Ieee.signed t n (j - min i j).toNat).natAbs) (e := min i j) ?_
  by_cases h : Ieee.signed s m (i - min i j).toNat + Ieee.signed t n (j - min i j).toNat = 0
  · right; rw [h]; rfl
  · left; rw [if_neg h]; exact decide_eq_false (by omega)

theorem NN.div {x y : Fl .f32} (hx : fin x = true) (h0 : 0 ≤ val x) (hy : fin y = true) (h1 : 0 < val y) : NN (fdiv x y) := by
  obtain ⟨s, m, i, dx⟩ := fin_num hx
  obtain ⟨t, n, j, dy⟩ := fin_num hy
  have hn0 : n ≠ 0 := by intro h'; subst h'; rw [val_num dy] at h1; unfold dv at h1; simp at h1
  have ht : t = false := by
    rw [val_num dy] at h1
    rcases dv_nonneg (Rat.le_of_lt h1) with h | h
    · exact h
    · exact absurd h hn0
  have e : fdiv x y = Fl.res .f32 (((FloatKind.f32.format.read x.bits).quotient (FloatKind.f32.format.fractionBits + 2) (FloatKind.f32.format.read y.bits)).map FloatKind.f32.format.write) := rfl
  rw [e, dx, dy]
  unfold Ieee.Datum.quotient
  simp only [if_neg hn0]
  refine write_nn (k := .f32) (s := s ^^ t) (m := 2 * (m <<< (FloatKind.f32.format.fractionBits + 2 + n.log2 - m.log2) / n) + (m <<< (FloatKind.f32.format.fractionBits + 2 + n.log2 - m.log2) % n != 0).toNat) (e := i - j - (FloatKind.f32.format.fractionBits + 2 + n.log2 - m.log2 : Nat) - 1) ?_
  rw [val_num dx] at h0
  rcases dv_nonneg h0 with h | h
  · left; rw [h, ht]; rfl
  · right; subst h; simp

/-- one less what lies between 0 and 1 -/
theorem one_less {e : Fl .f32} (h : fin e = true) (h0 : 0 ≤ val e) (h1 : val e ≤ 1) : fin (fsub (Fl.of .f32 1065353216) e) = true ∧ 0 ≤ val (fsub (Fl.of .f32 1065353216) e) ∧ val (fsub (Fl.of .f32 1065353216) e) ≤ 1 ∧ (val (fsub (Fl.of .f32 1065353216) e) = 0 → fsub (Fl.of .f32 1065353216) e = Fl.of .f32 0) := by
  have z : fin (Fl.of .f32 0) = true ∧ val (Fl.of .f32 0) = 0 := by decide +kernel
  have b := sub_between (x := Fl.of .f32 1065353216) (y := e) (L := Fl.of .f32 0) (U := Fl.of .f32 1065353216) oneF.1 h z.1 oneF.1 (by rw [z.2, oneF.2]; grind) (by rw [oneF.2]; grind)
  rw [z.2, oneF.2] at b
  refine ⟨b.1, b.2.1, b.2.2, fun h2 => ?_⟩
  have e1 : val e = 1 := by
    rcases Rat.le_iff_lt_or_eq.1 h1 with h3 | h3
    · exfalso
      have h4 : val e ≤ 1 - 1 / 16777216 := by
        rcases Rat.le_iff_lt_or_eq.1 h0 with h5 | h5
        · exact below_one h h5 h3
        · rw [← h5]; decide +kernel
      have c := sub_between (x := Fl.of .f32 1065353216) (y := e) (L := Fl.of .f32 864026624) (U := Fl.of .f32 1065353216) oneF.1 h tiny.1 oneF.1 (by rw [tiny.2, oneF.2]; grind) (by rw [oneF.2]; grind)
      rw [tiny.2, h2] at c
      exact absurd c.2.1 (by decide +kernel)
    · exact h3
  have e2 : e = Fl.of .f32 1065353216 := val_inj h oneF.1 (by rw [e1, oneF.2]) (by rw [e1]; decide +kernel)
  rw [e2]; decide +kernel
end Go.Ab

/-
  Rounding keeps the order: of two numbers the lesser is not rounded to the greater.
-/
namespace Go.Ab

def cutE (n d : Nat) : Nat := n / 2 ^ d + (decide (2 ^ d < 2 * (n % 2 ^ d)) || (2 ^ d == 2 * (n % 2 ^ d) && n / 2 ^ d % 2 == 1)).toNat

theorem cut_eq (s : Bool) (n d : Nat) : Ieee.Toward.even.cut s n d = cutE n d := by
  have hl : n < 2 ^ (n.log2 + 1) := Nat.lt_log2_self
  unfold Ieee.Toward.cut cutE
  simp only [Nat.one_shiftLeft]
  by_cases hd : d ≤ n.log2 + 2
  · rw [Nat.min_eq_left hd]
  · rw [Nat.min_eq_right (by omega)]
    have e0 : 2 ^ (n.log2 + 2) = 2 * 2 ^ (n.log2 + 1) := by rw [Nat.pow_succ 2 (n.log2 + 1)]; omega
    have e1 : 2 ^ (n.log2 + 2) ≤ 2 ^ d := Nat.pow_le_pow_right (by omega) (by omega)
    rw [Nat.div_eq_of_lt (show n < 2 ^ (n.log2 + 2) by omega), Nat.mod_eq_of_lt (show n < 2 ^ (n.log2 + 2) by omega), Nat.div_eq_of_lt (show n < 2 ^ d by omega), Nat.mod_eq_of_lt (show n < 2 ^ d by omega)]
    have a1 : decide (2 ^ (n.log2 + 2) < 2 * n) = false := by simp; omega
    have a2 : (2 ^ (n.log2 + 2) == 2 * n) = false := by simp; omega
    have a3 : decide (2 ^ d < 2 * n) = false := by simp; omega
    have a4 : (2 ^ d == 2 * n) = false := by simp; omega
    rw [a1, a2, a3, a4]

theorem cutE_scale (n d c : Nat) : cutE (n * 2 ^ c) (d + c) = cutE n d := by
  have hc : 0 < 2 ^ c := Nat.two_pow_pos c
  unfold cutE
  rw [Nat.pow_add, Nat.mul_div_mul_right _ _ hc, Nat.mul_mod_mul_right]
  have a1 : decide (2 ^ d * 2 ^ c < 2 * (n % 2 ^ d * 2 ^ c)) = decide (2 ^ d < 2 * (n % 2 ^ d)) := by
    rw [← Nat.mul_assoc]
    exact decide_eq_decide.2 (Nat.mul_lt_mul_right hc)
  have a2 : (2 ^ d * 2 ^ c == 2 * (n % 2 ^ d * 2 ^ c)) = (2 ^ d == 2 * (n % 2 ^ d)) := by
    rw [← Nat.mul_assoc]
    show decide _ = decide _
    exact decide_eq_decide.2 (Nat.mul_left_inj (by omega))
  rw [a1, a2]

theorem cutE_le {n n' d : Nat} (h : n ≤ n') : cutE n d ≤ cutE n' d := by
  have hD : 0 < 2 ^ d := Nat.two_pow_pos d
  unfold cutE
  have q := Nat.div_le_div_right (c := 2 ^ d) h
  have e1 := Nat.div_add_mod n (2 ^ d)
  have e2 := Nat.div_add_mod n' (2 ^ d)
  generalize n / 2 ^ d = a at *
  generalize n' / 2 ^ d = b at *
  generalize n % 2 ^ d = r at *
  generalize n' % 2 ^ d = r' at *
  rcases Nat.lt_or_ge a b with h1 | h1
  · have := Bool.toNat_le (decide (2 ^ d < 2 * r) || (2 ^ d == 2 * r && a % 2 == 1))
    omega
  · have hab : a = b := by omega
    subst hab
    have hr : r ≤ r' := by omega
    refine Nat.add_le_add_left ?_ _
    by_cases c1 : 2 ^ d < 2 * r
    · rw [decide_eq_true c1, decide_eq_true (show 2 ^ d < 2 * r' by omega)]; exact Nat.le_refl _
    · rw [decide_eq_false c1]
      by_cases c2 : 2 ^ d = 2 * r
      · rcases Nat.lt_or_ge r r' with h2 | h2
        · rw [decide_eq_true (show 2 ^ d < 2 * r' by omega)]
          exact Bool.toNat_le _
        · have : r = r' := by omega
          subst this
          rw [decide_eq_false c1]; exact Nat.le_refl _
      · have : (2 ^ d == 2 * r) = false := by simpa using c2
        rw [this]; exact Nat.zero_le _

theorem cut_mono {s s' : Bool} {n n' d d' : Nat} (h : n * 2 ^ d' ≤ n' * 2 ^ d) : Ieee.Toward.even.cut s n d ≤ Ieee.Toward.even.cut s' n' d' := by
  rw [cut_eq, cut_eq, ← cutE_scale n d d', ← cutE_scale n' d' d, Nat.add_comm d' d]
  exact cutE_le h

theorem kept_mono {s s' : Bool} {mag P mag' P' La : Nat} (h : mag * 2 ^ P ≤ mag' * 2 ^ P') : keptN s mag P La ≤ keptN s' mag' P' La := by
  apply cut_mono
  rw [Nat.shiftLeft_eq, Nat.shiftLeft_eq, Nat.mul_assoc, ← Nat.pow_add, Nat.mul_assoc, ← Nat.pow_add]
  rcases Nat.le_total (P + P') La with h1 | h1
  · rw [show P - La + (La - P') = P + (La - P - P') by omega, show P' - La + (La - P) = P' + (La - P - P') by omega, Nat.pow_add, Nat.pow_add, ← Nat.mul_assoc, ← Nat.mul_assoc]
    exact Nat.mul_le_mul_right _ h
  · obtain ⟨t, ht⟩ : ∃ t, (P - La + (La - P')) + t = P ∧ (P' - La + (La - P)) + t = P' := ⟨P - (P - La + (La - P')), by omega⟩
    rw [← ht.1] at h
    have e : mag' * 2 ^ P' = mag' * 2 ^ (P' - La + (La - P)) * 2 ^ t := by rw [Nat.mul_assoc, ← Nat.pow_add, ht.2]
    rw [e, Nat.pow_add, ← Nat.mul_assoc] at h
    exact Nat.le_of_mul_le_mul_right h (Nat.two_pow_pos t)

theorem rung_mono {s s' : Bool} {fb mag P mag' P' Lp La La' : Nat} (hm : mag ≠ 0) (hm' : mag' ≠ 0) (hLa : La = max (P + mag.log2 - fb) Lp) (hLa' : La' = max (P' + mag'.log2 - fb) Lp) (h : mag * 2 ^ P ≤ mag' * 2 ^ P') :
    (La - Lp) * 2 ^ fb + keptN s mag P La ≤ (La' - Lp) * 2 ^ fb + keptN s' mag' P' La' := by
  have h1 : P + mag.log2 ≤ P' + mag'.log2 := by
    rcases Nat.lt_or_ge (P' + mag'.log2) (P + mag.log2) with h2 | h2
    · exfalso
      have a : mag' < 2 ^ (mag'.log2 + 1) := Nat.lt_log2_self
      have b : 2 ^ mag.log2 ≤ mag := Nat.log2_self_le hm
      have c : mag' * 2 ^ P' < 2 ^ (mag'.log2 + 1) * 2 ^ P' := Nat.mul_lt_mul_of_pos_right a (Nat.two_pow_pos P')
      have d : 2 ^ mag.log2 * 2 ^ P ≤ mag * 2 ^ P := Nat.mul_le_mul_right _ b
      rw [← Nat.pow_add] at c d
      have e : 2 ^ (mag'.log2 + 1 + P') ≤ 2 ^ (mag.log2 + P) := Nat.pow_le_pow_right (by omega) (by omega)
      omega
    · exact h2
  have h2 : La ≤ La' := by omega
  rcases Nat.lt_or_ge La La' with h3 | h3
  · have k1 := (kept_shape (s := s) hm hLa).2
    have k2 : 2 ^ fb ≤ keptN s' mag' P' La' := le_kept (kept_lo hm' hLa' (by omega))
    have k3 : (La - Lp + 1) * 2 ^ fb ≤ (La' - Lp) * 2 ^ fb := Nat.mul_le_mul_right _ (by omega)
    rw [Nat.add_mul, Nat.one_mul] at k3
    omega
  · have e : La = La' := by omega
    subst e
    exact Nat.add_le_add_left (kept_mono h) _

section
variable {k : FloatKind}
theorem write_form (s : Bool) {m : Nat} (hm : m ≠ 0) (e : Int) {b : Int} (hb : b ≤ e) (hb' : b ≤ k.format.leastPlace) :
    k.format.write (.number s m e) = k.format.word s (min ((max ((e - b).toNat + m.log2 - k.format.fractionBits) (k.format.leastPlace - b).toNat - (k.format.leastPlace - b).toNat) * 2 ^ k.format.fractionBits + keptN s m (e - b).toNat (max ((e - b).toNat + m.log2 - k.format.fractionBits) (k.format.leastPlace - b).toNat)) k.format.infRung) := by
  obtain ⟨hB, _, _, _⟩ := fmt_facts (k := k)
  show k.format.nearest s m e = _
  unfold Ieee.Format.nearest
  rw [if_neg hm]
  simp only
  unfold keptN
  have e1 : (e - max (e + (m.log2 : Int) - k.format.fractionBits) k.format.leastPlace).toNat = (e - b).toNat - max ((e - b).toNat + m.log2 - k.format.fractionBits) (k.format.leastPlace - b).toNat := by omega
  have e2 : (max (e + (m.log2 : Int) - k.format.fractionBits) k.format.leastPlace - e).toNat = max ((e - b).toNat + m.log2 - k.format.fractionBits) (k.format.leastPlace - b).toNat - (e - b).toNat := by omega
  have e3 : (max (e + (m.log2 : Int) - k.format.fractionBits) k.format.leastPlace - k.format.leastPlace).toNat = max ((e - b).toNat + m.log2 - k.format.fractionBits) (k.format.leastPlace - b).toNat - (k.format.leastPlace - b).toNat := by omega
  rw [e1, e2, e3, ← hB]

theorem write_mono (s s' : Bool) {m m' : Nat} {e e' : Int} (h : (m : Rat) * 2 ^ e ≤ (m' : Rat) * 2 ^ e') :
    ∃ R R', k.format.write (.number s m e) = k.format.word s R ∧ k.format.write (.number s' m' e') = k.format.word s' R' ∧ R ≤ R' ∧ R' ≤ k.format.infRung ∧ (m = 0 → R = 0) ∧ (m' = 0 → R' = 0) := by
  have z : ∀ s e, k.format.write (.number s 0 e) = k.format.word s 0 := fun s e => by
    show k.format.nearest s 0 e = _
    unfold Ieee.Format.nearest; rw [if_pos rfl]
  by_cases hm : m = 0
  · subst hm
    by_cases hm' : m' = 0
    · subst hm'
      exact ⟨0, 0, z _ _, z _ _, Nat.le_refl _, Nat.zero_le _, fun _ => rfl, fun _ => rfl⟩
    · obtain ⟨R', hw, hR⟩ := write_word (k := k) s' m' e'
      exact ⟨0, R', z _ _, hw, Nat.zero_le _, hR, fun _ => rfl, fun h => absurd h hm'⟩
  · by_cases hm' : m' = 0
    · exfalso
      subst hm'
      rw [scale_le (b := min e e') (by omega) (by omega), Nat.zero_mul] at h
      have := Nat.mul_pos (show 0 < m by omega) (Nat.two_pow_pos (e - min e e').toNat)
      omega
    · have h' := (scale_le (b := min (min e e') k.format.leastPlace) (by omega) (by omega)).1 h
      refine ⟨_, _, write_form s hm e (b := min (min e e') k.format.leastPlace) (by omega) (by omega), write_form s' hm' e' (b := min (min e e') k.format.leastPlace) (by omega) (by omega), ?_, Nat.min_le_right _ _, fun h => absurd h hm, fun h => absurd h hm'⟩
      have := rung_mono (s := s) (s' := s') (fb := k.format.fractionBits) (Lp := (k.format.leastPlace - min (min e e') k.format.leastPlace).toNat) hm hm' rfl rfl h'
      omega

theorem word_val (s : Bool) {m : Nat} {R : Nat} (h : R < k.format.infRung) (hz : s = false ∨ m = 0) (h0 : m = 0 → R = 0) : fin (Fl.of k (k.format.word s R)) = true ∧ val (Fl.of k (k.format.word s R)) = (unitOf k.format.binade R : Rat) * 2 ^ k.format.leastPlace := by
  obtain ⟨a, b, c⟩ := of_word (k := k) s h
  refine ⟨a, ?_⟩
  rw [val_eq a, b]
  unfold au
  rw [c]
  rcases hz with rfl | hz
  · rfl
  · rw [h0 hz, u0]
    unfold ng
    split <;> simp

theorem of_write_mono {s s' : Bool} {m m' : Nat} {e e' : Int} (h0 : 0 ≤ dv (.number s m e)) (h : dv (.number s m e) ≤ dv (.number s' m' e')) (hf : fin (Fl.of k (k.format.write (.number s' m' e'))) = true) :
    fin (Fl.of k (k.format.write (.number s m e))) = true ∧ val (Fl.of k (k.format.write (.number s m e))) ≤ val (Fl.of k (k.format.write (.number s' m' e'))) := by
  have hz := dv_nonneg h0
  have hz' := dv_nonneg (Rat.le_trans h0 h)
  have g : ∀ {s : Bool} {m : Nat} {e : Int}, (s = false ∨ m = 0) → dv (.number s m e) = (m : Rat) * 2 ^ e := by
    intro s m e h
    rw [dv_num]
    unfold ng
    rcases h with rfl | rfl
    · rfl
    · split <;> simp
  rw [g hz, g hz'] at h
  obtain ⟨R, R', w1, w2, hR, hR', z1, z2⟩ := write_mono (k := k) s s' h
  rw [w2] at hf ⊢
  rw [w1]
  have hlt : R' < k.format.infRung := by
    rcases Nat.lt_or_ge R' k.format.infRung with h1 | h1
    · exact h1
    · exfalso
      obtain ⟨_, _, h3, _⟩ := fmt_facts (k := k)
      rw [not_fin_word s' h1 (by omega)] at hf
      cases hf
  obtain ⟨a1, a2⟩ := word_val s (show R < k.format.infRung by omega) hz z1
  obtain ⟨b1, b2⟩ := word_val s' hlt hz' z2
  refine ⟨a1, ?_⟩
  rw [a2, b2]
  have hBp : 0 < k.format.binade := by cases k <;> decide +kernel
  exact Rat.mul_le_mul_of_nonneg_right (Rat.natCast_le_natCast.2 (unit_le hBp hR)) (Rat.le_of_lt (two_pos _))

theorem add_mono {x x' y y' : Fl k} (hx : fin x = true) (hx' : fin x' = true) (hy : fin y = true) (hy' : fin y' = true) (h0 : 0 ≤ val x + val y) (h : val x + val y ≤ val x' + val y') (hf : fin (fadd x' y') = true) : fin (fadd x y) = true ∧ val (fadd x y) ≤ val (fadd x' y') := by
  obtain ⟨s, m, i, dx⟩ := fin_num hx
  obtain ⟨t, n, j, dy⟩ := fin_num hy
  obtain ⟨s', m', i', dx'⟩ := fin_num hx'
  obtain ⟨t', n', j', dy'⟩ := fin_num hy'
  have e : ∀ x y : Fl k, fadd x y = Fl.res k (((k.format.read x.bits).sum (k.format.read y.bits)).map k.format.write) := fun _ _ => rfl
  have hd := total_dv (s && t) (Ieee.signed s m (i - min i j).toNat + Ieee.signed t n (j - min i j).toNat) (min i j)
  rw [Rat.intCast_add, Rat.add_mul, signed_dv s m (by omega), signed_dv t n (by omega), ← val_num dx, ← val_num dy] at hd
  have hd' := total_dv (s' && t') (Ieee.signed s' m' (i' - min i' j').toNat + Ieee.signed t' n' (j' - min i' j').toNat) (min i' j')
  rw [Rat.intCast_add, Rat.add_mul, signed_dv s' m' (by omega), signed_dv t' n' (by omega), ← val_num dx', ← val_num dy'] at hd'
  rw [e x' y', dx', dy'] at hf ⊢
  rw [e x y, dx, dy]
  exact of_write_mono (by rw [hd]; exact h0) (by rw [hd, hd']; exact h) hf

theorem mul_mono {x x' y y' : Fl k} (hx : fin x = true) (hx' : fin x' = true) (hy : fin y = true) (hy' : fin y' = true) (h0 : 0 ≤ val x * val y) (h : val x * val y ≤ val x' * val y') (hf : fin (fmul x' y') = true) : fin (fmul x y) = true ∧ val (fmul x y) ≤ val (fmul x' y') := by
  obtain ⟨s, m, i, dx⟩ := fin_num hx
  obtain ⟨t, n, j, dy⟩ := fin_num hy
  obtain ⟨s', m', i', dx'⟩ := fin_num hx'
  obtain ⟨t', n', j', dy'⟩ := fin_num hy'
  have e : ∀ x y : Fl k, fmul x y = Fl.res k (((k.format.read x.bits).product (k.format.read y.bits)).map k.format.write) := fun _ _ => rfl
  have hd : dv (.number (s ^^ t) (m * n) (i + j)) = val x * val y := by
    rw [val_num dx, val_num dy, dv_num, dv_num, dv_num, ← ng_mul, two_add, Rat.natCast_mul]
    congr 1; grind
  have hd' : dv (.number (s' ^^ t') (m' * n') (i' + j')) = val x' * val y' := by
    rw [val_num dx', val_num dy', dv_num, dv_num, dv_num, ← ng_mul, two_add, Rat.natCast_mul]
    congr 1; grind
  rw [e x' y', dx', dy'] at hf ⊢
  rw [e x y, dx, dy]
  exact of_write_mono (by rw [hd]; exact h0) (by rw [hd, hd']; exact h) hf
end
end Go.Ab

/-
  Marks of integers, that the statements' own functions write.
-/
namespace Go.Ab
abbrev LI : Type := List Int
abbrev L64 : DS := .list (.int .i64)
/-- the marks from k on -/
def imarks (k : Int) : Nat → LI
  | 0 => []
  | n + 1 => k :: imarks (k + 1) n
theorem imarks_len (k : Int) : ∀ n, (imarks k n).length = n
  | 0 => rfl
  | n + 1 => by show (imarks (k + 1) n).length + 1 = n + 1; rw [imarks_len]
theorem imarks_get (k : Int) : ∀ n i, i < n → (imarks k n).getD i 0 = k + i
  | 0, i, h => by omega
  | n + 1, 0, h => by show k = _; simp
  | n + 1, i + 1, h => by
    show (imarks (k + 1) n).getD i 0 = _
    rw [imarks_get (k + 1) n i (by omega)]
    omega
theorem imarks_succ (k : Int) : ∀ n : Nat, imarks k (n + 1) = imarks k n ++ [k + n]
  | 0 => by show [k] = [k + 0]; rw [Int.add_zero]
  | n + 1 => by
    show k :: imarks (k + 1) (n + 1) = k :: imarks (k + 1) n ++ [k + (n + 1 : Nat)]
    rw [imarks_succ (k + 1) n, List.cons_append, show k + 1 + (n : Int) = k + ((n + 1 : Nat) : Int) by omega]
/-- a list whose first i places are marked -/
def imarkUp (k : Int) (g : LI) (i : Nat) : LI := imarks k i ++ g.drop i
theorem imarkUp_zero (k : Int) (g : LI) : imarkUp k g 0 = g := by simp [imarkUp, imarks]
theorem imarkUp_end (k : Int) (g : LI) : imarkUp k g g.length = imarks k g.length := by simp [imarkUp]
theorem imarkUp_succ (k : Int) (g : LI) {i : Nat} (h : i < g.length) : (imarkUp k g i).set i (k + i) = imarkUp k g (i + 1) := by
  unfold imarkUp
  rw [List.set_append_right _ _ (by rw [imarks_len]; exact Nat.le_refl _), imarks_len, Nat.sub_self, List.drop_eq_getElem_cons h, List.set_cons_zero, imarks_succ, List.append_assoc]
  rfl
theorem sub_imarks (k : Int) (n : Nat) : sub (imarks k n) 0 n = imarks k n := by have := sub_all (imarks k n); rw [imarks_len] at this; exact this
/-- the first i places are new -/
def newUp {α : Type} (f : Nat → α) (g : List α) (i : Nat) : List α := mapR f i ++ g.drop i
theorem newUp_zero {α : Type} (f : Nat → α) (g : List α) : newUp f g 0 = g := by simp [newUp, mapR]
theorem newUp_end {α : Type} (f : Nat → α) (g : List α) : newUp f g g.length = mapR f g.length := by simp [newUp]
theorem newUp_len {α : Type} (f : Nat → α) (g : List α) {i : Nat} (h : i ≤ g.length) : (newUp f g i).length = g.length := by simp [newUp, mapR_len]; omega
theorem newUp_get {α : Type} (f : Nat → α) (g : List α) (d : α) {i j : Nat} (h : i ≤ j) : (newUp f g i).getD j d = g.getD j d := by
  unfold newUp
  rw [List.getD_eq_getElem?_getD, List.getD_eq_getElem?_getD, List.getElem?_append_right (by rw [mapR_len]; exact h), mapR_len, List.getElem?_drop]
  congr 3; omega
theorem newUp_succ {α : Type} (f : Nat → α) (g : List α) {i : Nat} (h : i < g.length) : (newUp f g i).set i (f i) = newUp f g (i + 1) := by
  unfold newUp
  rw [List.set_append_right _ _ (by rw [mapR_len]; exact Nat.le_refl _), mapR_len, Nat.sub_self, List.drop_eq_getElem_cons h, List.set_cons_zero, mapR_succ, List.append_assoc]
  rfl
theorem newUp_same {α : Type} (f : Nat → α) (g : List α) (d : α) {i : Nat} (h : i < g.length) (e : f i = g.getD i d) : newUp f g i = newUp f g (i + 1) := by
  unfold newUp
  rw [List.drop_eq_getElem_cons h, mapR_succ, List.append_assoc, e, List.getD_eq_getElem?_getD, List.getElem?_eq_getElem h]
  rfl
end Go.Ab

/-
  Floors and what is left of a number: the library's door, and the integers that come of them.
-/
namespace Go.Ab
open Go.RowKit

/-- a number made whole: none: a NaN -/
def fint (way : Ieee.Toward) (x : Fl .f64) : Option (Fl .f64) := bif nanB .f64 x.bits then none else some (Fl.of .f64 (FloatKind.f64.encode ((FloatKind.f64.decode x.bits).integral way)))
def floorAG (x : Fl .f64) : Option (Fl .f64) := fint .down x
def floorAS : FSpec := ⟨[.flt .f64], [.flt .f64], floorAG⟩
def truncAG (x : Fl .f64) : Option (Fl .f64) := fint .zero x
def truncAS : FSpec := ⟨[.flt .f64], [.flt .f64], truncAG⟩

section
variable {P : Program} {f : FuncId} {fn : Func} (hf : P.funcs[f]? = some fn) (hname : (fn.name == "runtime.NumGoroutine") = false) (hb : fn.body.isNone = true) (hn : Extern.findNext fn = none)
include hf hname hb hn
theorem integral_ok (name : String) (way : Ieee.Toward) (he : Extern.find fn = some (Extern.MathFloor.toIntegral name way)) : SpecOk' P f ⟨[.flt .f64], [.flt .f64], fint way⟩ := by
  refine extern_ok hf hname hb hn he fun x r hx w args ⟨v, ha, b, hxb, hv⟩ => ?_
  subst hv
  have hx' : fint way x = some r := hx
  unfold fint at hx'
  cases hnb : nanB .f64 x.bits with
  | true => rw [hnb] at hx'; cases hx'
  | false =>
    rw [hnb] at hx'
    cases hx'
    rw [one_arg ha, bits_of_is hxb hnb]
    have hlt : FloatKind.f64.encode ((FloatKind.f64.decode x.bits).integral way) < 2 ^ FloatKind.f64.format.width := FloatKind.f64.format.write_lt _
    refine ⟨.float .f64 (FloatKind.f64.encode ((FloatKind.f64.decode x.bits).integral way)), ?_, out_one ⟨⟨_, Fl.is_of hlt, rfl⟩, rfl⟩⟩
    have key : ∀ d : Ieee.Datum, FloatKind.f64.decode x.bits = d → d.isNaN = false → (Extern.MathFloor.toIntegral name way #[.float .f64 x.bits]).run P w = .ok (.float .f64 (FloatKind.f64.encode (d.integral way))) w := by
      intro d hd hnn
      have e : Extern.MathFloor.toIntegral name way #[.float .f64 x.bits] = (match FloatKind.f64.decode x.bits with
        | .nan s t =>
          if FloatKind.f64.format.quiet t = t then pure (.float .f64 x.bits) else do
          let kept ← choose (.extern "math.Floor,Ceil,Trunc,RoundToEven.signallingNaN kept" 2)
          pure (.float .f64 (if kept == 1 then x.bits else FloatKind.f64.encode (.nan s (FloatKind.f64.format.quiet t))))
        | d => pure (.float .f64 (FloatKind.f64.encode (d.integral way)))) := rfl
      rw [e, hd]
      cases d with
      | nan _ _ => cases hnn
      | number _ _ _ => rfl
      | infinity _ => rfl
    exact key _ rfl hnb
theorem floorA_ok (he : Extern.find fn = some (Extern.MathFloor.toIntegral "math.archFloor" .down)) : SpecOk' P f floorAS := integral_ok hf hname hb hn _ _ he
theorem truncA_ok (he : Extern.find fn = some (Extern.MathFloor.toIntegral "math.archTrunc" .zero)) : SpecOk' P f truncAS := integral_ok hf hname hb hn _ _ he
end

theorem cut_down {way : Ieee.Toward} (hw : way = .down ∨ way = .zero) {s : Bool} {n : Nat} (h : s = false ∨ n = 0) (d : Nat) : way.cut s n d = n / 2 ^ d := by
  unfold Ieee.Toward.cut
  have hg : n / (1 <<< min d (n.log2 + 2)) = n / 2 ^ d := by
    rw [Nat.one_shiftLeft]
    rcases Nat.le_total d (n.log2 + 2) with h1 | h1
    · rw [Nat.min_eq_left h1]
    · rw [Nat.min_eq_right h1]
      have h2 : n < 2 ^ (n.log2 + 1) := Nat.lt_log2_self
      have h3 : 2 ^ (n.log2 + 1) ≤ 2 ^ (n.log2 + 2) := Nat.pow_le_pow_right (by decide) (by omega)
      have h4 : 2 ^ (n.log2 + 2) ≤ 2 ^ d := Nat.pow_le_pow_right (by decide) h1
      rw [Nat.div_eq_of_lt (by omega), Nat.div_eq_of_lt (by omega)]
  rcases hw with rfl | rfl
  · simp only
    rw [hg]
    rcases h with rfl | rfl
    · rfl
    · simp
  · simp only
    rw [hg]
    rfl

theorem nonneg_sign {s : Bool} {m : Nat} {p : Int} (h : 0 ≤ dv (.number s m p)) : s = false ∨ m = 0 := by
  cases s with
  | false => exact .inl rfl
  | true =>
    refine .inr ?_
    rcases Nat.eq_zero_or_pos m with h0 | h0
    · exact h0
    · exfalso
      have h1 : (0 : Rat) < (m : Rat) * 2 ^ p := Rat.mul_pos (by exact_mod_cast h0) (two_pos p)
      have h2 : dv (.number true m p) = -((m : Rat) * 2 ^ p) := by unfold dv; simp [Rat.neg_mul]
      rw [h2] at h
      grind

theorem whole {way : Ieee.Toward} (hw : way = .down ∨ way = .zero) {s : Bool} {m : Nat} {p : Int} (h : 0 ≤ dv (.number s m p)) :
    ∃ N : Nat, (Ieee.Datum.number s m p).integral way = .number s N 0 ∧ (N : Rat) ≤ dv (.number s m p) ∧ dv (.number s m p) < (N : Rat) + 1 ∧ (s = false ∨ N = 0) := by
  have hs := nonneg_sign h
  have hd : dv (.number s m p) = (m : Rat) * 2 ^ p := by
    rcases hs with rfl | rfl
    · unfold dv; simp
    · unfold dv; simp
  refine ⟨(m <<< p.toNat) / 2 ^ (-p).toNat, ?_, ?_, ?_, ?_⟩
  · show Ieee.Datum.number s (way.cut s (m <<< p.toNat) (-p).toNat) 0 = _
    rw [cut_down hw (hs.imp id fun e => by rw [e]; simp)]
  · rw [hd]
    rcases Int.le_total 0 p with hp | hp
    · obtain ⟨k, rfl⟩ : ∃ k : Nat, p = k := ⟨p.toNat, by omega⟩
      rw [show (-(k : Int)).toNat = 0 by omega, Nat.pow_zero, Nat.div_one, Int.toNat_natCast, two_nat, ← Rat.natCast_mul, Nat.shiftLeft_eq]
      exact Rat.le_refl
    · obtain ⟨k, rfl⟩ : ∃ k : Nat, p = -(k : Int) := ⟨(-p).toNat, by omega⟩
      rw [show (-(k : Int)).toNat = 0 by omega, show (-(-(k : Int))).toNat = k by omega, Nat.shiftLeft_eq, Nat.pow_zero, Nat.mul_one]
      have h1 : m / 2 ^ k * 2 ^ k ≤ m := Nat.div_mul_le_self _ _
      have := (scale_le (m := m / 2 ^ k) (n := m) (i := 0) (j := -(k : Int)) (b := -(k : Int)) (by omega) (by omega)).2 (by
        rw [show ((0 : Int) - -(k : Int)).toNat = k by omega, show (-(k : Int) - -(k : Int)).toNat = 0 by omega, Nat.pow_zero, Nat.mul_one]; exact h1)
      rw [Rat.zpow_zero, Rat.mul_one] at this
      exact this
  · rw [hd]
    rcases Int.le_total 0 p with hp | hp
    · obtain ⟨k, rfl⟩ : ∃ k : Nat, p = k := ⟨p.toNat, by omega⟩
      rw [show (-(k : Int)).toNat = 0 by omega, Nat.pow_zero, Nat.div_one, Int.toNat_natCast, two_nat, ← Rat.natCast_mul, Nat.shiftLeft_eq]
      grind
    · obtain ⟨k, rfl⟩ : ∃ k : Nat, p = -(k : Int) := ⟨(-p).toNat, by omega⟩
      rw [show (-(k : Int)).toNat = 0 by omega, show (-(-(k : Int))).toNat = k by omega, Nat.shiftLeft_eq, Nat.pow_zero, Nat.mul_one]
      have h1 : m < (m / 2 ^ k + 1) * 2 ^ k := by
        have := Nat.lt_div_mul_add (a := m) (b := 2 ^ k) (Nat.two_pow_pos k)
        rw [Nat.add_mul, Nat.one_mul]; exact this
      refine Rat.not_le.1 fun hc => ?_
      have := (scale_le (m := m / 2 ^ k + 1) (n := m) (i := 0) (j := -(k : Int)) (b := -(k : Int)) (by omega) (by omega)).1 (by
        rw [Rat.zpow_zero, Rat.mul_one, Rat.natCast_add]; exact hc)
      rw [show ((0 : Int) - -(k : Int)).toNat = k by omega, show (-(k : Int) - -(k : Int)).toNat = 0 by omega, Nat.pow_zero, Nat.mul_one] at this
      omega
  · rcases hs with rfl | rfl
    · exact .inl rfl
    · right; simp
theorem whole_one {v : Rat} {N M : Nat} (h1 : (N : Rat) ≤ v) (h2 : v < (N : Rat) + 1) (h3 : (M : Rat) ≤ v) (h4 : v < (M : Rat) + 1) : N = M := by
  have a : (N : Rat) < ((M + 1 : Nat) : Rat) := by rw [Rat.natCast_add]; grind
  have b : (M : Rat) < ((N + 1 : Nat) : Rat) := by rw [Rat.natCast_add]; grind
  have a := Rat.natCast_lt_natCast.1 a
  have b := Rat.natCast_lt_natCast.1 b
  omega
/-- what an integer is left of a number -/
theorem toInt_whole {k : FloatKind} {x : Fl k} (hx : fin x = true) (h0 : 0 ≤ val x) (h1 : val x ≤ 1000) : ∃ N : Nat, ftoInt x .i64 = some (N : Int) ∧ (N : Rat) ≤ val x ∧ val x < (N : Rat) + 1 ∧ N ≤ 1000 := by
  obtain ⟨s, m, p, dx⟩ := fin_num hx
  rw [val_num dx] at h0 h1 ⊢
  obtain ⟨N, e, b1, b2, hs⟩ := whole (.inr rfl : Ieee.Toward.zero = .down ∨ Ieee.Toward.zero = .zero) h0
  have hN : N ≤ 1000 := by
    have : (N : Rat) ≤ ((1000 : Nat) : Rat) := Rat.le_trans b1 h1
    exact Rat.natCast_le_natCast.1 this
  refine ⟨N, ?_, b1, b2, hN⟩
  unfold ftoInt floatToIntVal
  rw [show k.decode x.bits = _ from dx]
  unfold Ieee.Datum.toInt
  rw [e]
  have hsg : Ieee.signed s N 0 = (N : Int) := by
    unfold Ieee.signed
    rcases hs with rfl | rfl
    · simp
    · cases s <;> simp
  simp only [hsg]
  rw [if_pos ⟨by show (-9223372036854775808 : Int) ≤ N; omega, by show (N : Int) ≤ 9223372036854775807; omega⟩]
theorem ofInt_table : ((List.range 1001).all fun N => fin (fofInt .f32 (N : Int)) && decide (val (fofInt .f32 (N : Int)) = (N : Rat)) && (fin (fofInt .f64 (N : Int)) && decide (val (fofInt .f64 (N : Int)) = (N : Rat)))) = true := by decide +kernel
theorem whole_val {N : Nat} (h : N ≤ 1000) : (fin (fofInt .f32 (N : Int)) = true ∧ val (fofInt .f32 (N : Int)) = (N : Rat)) ∧ fin (fofInt .f64 (N : Int)) = true ∧ val (fofInt .f64 (N : Int)) = (N : Rat) := by
  have := List.all_eq_true.1 ofInt_table N (List.mem_range.2 (by omega))
  simpa [Bool.and_eq_true, decide_eq_true_iff, and_assoc] using this
theorem fin_nanB {k : FloatKind} {x : Fl k} (h : fin x = true) : nanB k x.bits = false := by
  obtain ⟨s, m, p, dx⟩ := fin_num h
  unfold nanB
  rw [show k.decode x.bits = _ from dx]
  rfl
/-- the floor of a number, as a float32 -/
theorem floor_conv {e : Fl .f32} (hx : fin e = true) (h0 : 0 ≤ val e) (h1 : val e ≤ 1000) : ∃ (N : Nat) (z : Fl .f64) (y : Fl .f32), N ≤ 1000 ∧ (N : Rat) ≤ val e ∧ floorAG (fwide e) = some z ∧ fconv .f64 .f32 z = some y ∧ fin y = true ∧ val y = (N : Rat) ∧ ftoInt e .i64 = some (N : Int) ∧ ftoInt y .i64 = some (N : Int) := by
  obtain ⟨N, t1, t2, t3, t4⟩ := toInt_whole hx h0 h1
  have hw := fin_wide' hx
  have hv := val_wide hx
  obtain ⟨s, m, p, dx⟩ := fin_num hw
  have hd : val (fwide e) = dv (.number s m p) := val_num dx
  obtain ⟨M, e1, b1, b2, hs⟩ := whole (.inl rfl : Ieee.Toward.down = .down ∨ Ieee.Toward.down = .zero) (s := s) (m := m) (p := p) (by rw [← hd, hv]; exact h0)
  rw [← hd, hv] at b1 b2
  have hNM : M = N := whole_one b1 b2 t2 t3
  subst hNM
  obtain ⟨⟨f1, f2⟩, f3, f4⟩ := whole_val t4
  have dN' : dv (.number s M 0) = (M : Rat) := by
    rcases hs with rfl | rfl
    · unfold dv; simp
    · unfold dv; simp
  obtain ⟨z1, z2, z3⟩ := between (k := .f64) s M 0 f3 f3 (by rw [f4, dN']; exact Rat.le_refl) (by rw [f4, dN']; exact Rat.le_refl)
  rw [f4] at z2 z3
  have zv : val (Fl.of .f64 (FloatKind.f64.format.write (.number s M 0))) = (M : Rat) := Rat.le_antisymm z3 z2
  obtain ⟨y, y1, y2, y3, y4⟩ := conv_between (s := .f64) (d := .f32) z1 f1 f1 (by rw [f2, zv]; exact Rat.le_refl) (by rw [f2, zv]; exact Rat.le_refl)
  rw [f2] at y3 y4
  have yv : val y = (M : Rat) := Rat.le_antisymm y4 y3
  have M1000 : (M : Rat) ≤ 1000 := by
    have : (M : Rat) ≤ ((1000 : Nat) : Rat) := Rat.natCast_le_natCast.2 t4
    exact this
  obtain ⟨N', u1, u2, u3, u4⟩ := toInt_whole y2 (by rw [yv]; exact Rat.natCast_nonneg) (by rw [yv]; exact M1000)
  have : N' = M := whole_one (v := val y) u2 u3 (by rw [yv]; exact Rat.le_refl) (by rw [yv]; grind)
  subst this
  refine ⟨N', _, y, t4, b1, ?_, y1, y2, yv, t1, u1⟩
  unfold floorAG fint
  rw [fin_nanB hw, cond_false, show FloatKind.f64.decode (fwide e).bits = _ from dx, e1]
  rfl
theorem zero_two {x : Fl .f32} (hx : fin x = true) (h : val x = 0) : x = Fl.of .f32 0 ∨ x = Fl.of .f32 2147483648 := by
  have ha : au x = 0 := by
    rw [val_eq hx] at h
    unfold ng at h
    split at h <;> grind
  have a0 : au (Fl.of .f32 0) = 0 := by decide +kernel
  have b0 : (Fl.of .f32 0).bits % FloatKind.f32.format.signWeight = (Fl.of .f32 2147483648).bits % FloatKind.f32.format.signWeight := by decide +kernel
  have hb := au_inj (x := x) (y := Fl.of .f32 0) (by rw [ha, a0])
  cases hs : sg x with
  | false => exact .inl (bits_inj hb (by rw [hs]; decide +kernel))
  | true => exact .inr (bits_inj (hb.trans b0) (by rw [hs]; decide +kernel))
theorem flt_zero (u : Fl .f32) : Go.Ab.flt u (Fl.of .f32 0) = Go.Ab.flt u (Fl.of .f32 2147483648) := by
  have r0 : FloatKind.f32.format.read (Fl.of .f32 0).bits = .number false 0 (-149) := by decide +kernel
  have r1 : FloatKind.f32.format.read (Fl.of .f32 2147483648).bits = .number true 0 (-149) := by decide +kernel
  unfold Go.Ab.flt ford Ieee.Format.order
  rw [r0, r1]
  cases FloatKind.f32.format.read u.bits with
  | nan _ _ => rfl
  | infinity _ => rfl
  | number s m i =>
    unfold Ieee.Datum.order
    have z : ∀ (t : Bool) (n : Nat), Ieee.signed t 0 n = 0 := by intro t n; unfold Ieee.signed; simp
    simp only [z]
theorem sub_zeros {e : Fl .f32} (he : fin e = true) (h0 : val e ≠ 0) {z : Fl .f32} (hz : fin z = true) (hv : val z = 0) : fsub e z = e := by
  obtain ⟨b1, b2, b3⟩ := sub_between (x := e) (y := z) he hz he he (by rw [hv]; grind) (by rw [hv]; grind)
  have : val (fsub e z) = val e := Rat.le_antisymm b3 b2
  exact val_inj b1 he this (by rw [this]; exact h0)
/-- what is less than the rest behind a floor, with either zero -/
theorem rest_same {e y : Fl .f32} (he : fin e = true) {N : Nat} (hN : N ≤ 1000) (hy : fin y = true) (hv : val y = (N : Rat)) (u : Fl .f32) : Go.Ab.flt u (fsub e y) = Go.Ab.flt u (fsub e (fofInt .f32 (N : Int))) := by
  obtain ⟨⟨f1, f2⟩, _, _⟩ := whole_val hN
  by_cases h0 : N = 0
  · subst h0
    have hv0 : val y = 0 := hv
    have fv0 : val (fofInt .f32 ((0 : Nat) : Int)) = 0 := f2
    by_cases e0 : val e = 0
    · have k0 : Go.Ab.fsub (Fl.of .f32 0) (Fl.of .f32 0) = Fl.of .f32 0 := by decide +kernel
      have k1 : Go.Ab.fsub (Fl.of .f32 0) (Fl.of .f32 2147483648) = Fl.of .f32 0 := by decide +kernel
      have k2 : Go.Ab.fsub (Fl.of .f32 2147483648) (Fl.of .f32 0) = Fl.of .f32 2147483648 := by decide +kernel
      have k3 : Go.Ab.fsub (Fl.of .f32 2147483648) (Fl.of .f32 2147483648) = Fl.of .f32 0 := by decide +kernel
      rcases zero_two he e0 with rfl | rfl <;> rcases zero_two hy hv0 with rfl | rfl <;> rcases zero_two f1 fv0 with q | q <;> rw [q] <;> simp only [k0, k1, k2, k3, flt_zero]
    · rw [sub_zeros he e0 hy hv0, sub_zeros he e0 f1 fv0]
  · have : y = fofInt .f32 (N : Int) := val_inj hy f1 (by rw [hv, f2]) (by
      rw [hv]
      intro h
      have h' : ((N : Nat) : Rat) = ((0 : Nat) : Rat) := h
      exact h0 (Rat.natCast_inj.1 h'))
    rw [this]
end Go.Ab
