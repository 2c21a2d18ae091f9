/- The program's TimeFor answers as the reference's does, at all arguments. No condition. -/
import Derived.Test.YtjggcekliaalgaaK10
import Derived.Test.YtjggcekliaalgaaLG
namespace Go.Proofs.Ytjggcekliaalgaa
open Go.Ab
def shB (m : Fl .f32) : Bool := fge m (Fl.of .f32 0) && flt m (Fl.of .f32 1065353216)
def shG (x : Fl .f32) : Option Bool := some (shB x)
def shS : FSpec := ⟨[F32], [.bool], shG⟩
theorem okL_all {x : LT} (h : okL x = true) : fin x.1 = true ∧ fin x.2.1 = true ∧ fgt x.2.1 (Fl.of .f32 0) = true ∧ fin x.2.2.1 = true ∧ fgt x.2.2.1 (Fl.of .f32 0) = true ∧ 1 ≤ x.2.2.2 ∧ x.2.2.2 ≤ 4 := by
  unfold okL at h
  cases h1 : fin x.1 <;> cases h2 : fin x.2.1 <;> cases h3 : fgt x.2.1 (Fl.of .f32 0) <;> cases h4 : fin x.2.2.1 <;> cases h5 : fgt x.2.2.1 (Fl.of .f32 0) <;> simp only [h1, h2, h3, h4, h5, cond_true, cond_false, Bool.false_eq_true, Bool.and_eq_true, decide_eq_true_eq] at h
  exact ⟨rfl, rfl, rfl, rfl, rfl, h⟩
theorem speed_fin {x : LT} (h : okL x = true) {t : Fl .f32} (ht : fin t = true) : fin (speedF x t) = true := by
  obtain ⟨a1, a2, a3, a4, a5, _⟩ := okL_all h
  have z := zero32'
  rw [fgt_val a2 z.1, z.2] at a3
  rw [fgt_val a4 z.1, z.2] at a5
  have b0 := of_decide_eq_true a3
  have c0 := of_decide_eq_true a5
  have q := div_no_nan (sub_no_nan ht a1) a2 (by grind)
  unfold speedF
  generalize fdiv (fsub t x.1) x.2.1 = w at q ⊢
  have e : fin (expF (fneg (fmul w w))) = true ∧ 0 ≤ val (expF (fneg (fmul w w))) ∧ val (expF (fneg (fmul w w))) ≤ 1 := by
    refine expF_in1 ?_
    rcases sq_form q with ⟨f, g⟩ | f
    · obtain ⟨f1, f2⟩ := fneg_val f
      exact .inl ⟨f1, by rw [f2]; grind⟩
    · right; rw [f]; decide +kernel
  generalize expF (fneg (fmul w w)) = v at e ⊢
  obtain ⟨e0, e1, e2⟩ := e
  have g1 : 0 ≤ val x.2.2.1 * val v := Rat.mul_nonneg (Rat.le_of_lt c0) e1
  have g2 : 0 ≤ val x.2.2.1 * (1 - val v) := Rat.mul_nonneg (Rat.le_of_lt c0) (by grind)
  exact (mul_between (x := x.2.2.1) (y := v) (L := Fl.of .f32 0) (U := x.2.2.1) a4 e0 z.1 a4 (by rw [z.2]; exact g1) (by grind)).1
theorem sh_fin {m : Fl .f32} (h : shB m = true) : fin m = true := by
  unfold shB at h
  rw [Bool.and_eq_true] at h
  rcases fl_cases m with hf | rfl | ⟨s, rfl, _⟩
  · exact hf
  · exact absurd h.1 (by decide +kernel)
  · cases s
    · exact absurd h.2 (by decide +kernel)
    · exact absurd h.1 (by decide +kernel)
theorem sh_pos {m : Fl .f32} (h : shB m = true) (h0 : ¬ feq m (Fl.of .f32 0) = true) : 0 < val m ∧ val m < 1 ∧ fgt m (Fl.of .f32 0) = true := by
  have hf := sh_fin h
  have z := zero32'
  unfold shB at h
  rw [Bool.and_eq_true, fge_val hf z.1, flt_val hf oneF.1, z.2, oneF.2] at h
  rw [feq_val hf z.1, z.2] at h0
  have h1 := of_decide_eq_true h.1
  have h2 := of_decide_eq_true h.2
  have h3 : ¬ val m = 0 := fun e => h0 (decide_eq_true e)
  have hp : 0 < val m := by grind
  exact ⟨hp, h2, by rw [fgt_val hf z.1, z.2]; exact decide_eq_true hp⟩
theorem sh_zero {m : Fl .f32} (hf : fin m = true) (h0 : feq m (Fl.of .f32 0) = true) : fgt m (Fl.of .f32 0) = false := by
  have z := zero32'
  rw [feq_val hf z.1, z.2] at h0
  rw [fgt_val hf z.1, z.2]
  have := of_decide_eq_true h0
  exact decide_eq_false (by grind)
def forF (x : LT) (t m : Fl .f32) : Fl .f32 × Bool := if feq m (Fl.of .f32 0) = true then (Fl.of .f32 0, true) else if fgt (speedF x t) (Fl.of .f32 0) = true then (if fin (fdiv (expF (fdiv (lnF (fneg (lnF (fsub (Fl.of .f32 1065353216) m)))) (fofInt .f32 x.2.2.2))) (speedF x t)) = true then (fdiv (expF (fdiv (lnF (fneg (lnF (fsub (Fl.of .f32 1065353216) m)))) (fofInt .f32 x.2.2.2))) (speedF x t), true) else (Fl.of .f32 0, false)) else (Fl.of .f32 0, false)
def forPG (x : LT × Fl .f32 × Fl .f32) : Option (Fl .f32 × Bool) := if okL x.1 = true ∧ fin x.2.1 = true ∧ shB x.2.2 = true then some (forF x.1 x.2.1 x.2.2) else none
def forPS : FSpec := ⟨[.ptr lawD, F32, F32], [F32, .bool], forPG⟩
def TimeF (x : LT) (t m : Fl .f32) : Fl .f32 × Bool := if okL x = true ∧ fin t = true ∧ shB m = true then forF x t m else (Fl.of .f32 0, false)
def timeG (x : LT × Fl .f32 × Fl .f32) : Option (Fl .f32 × Bool) := some (TimeF x.1 x.2.1 x.2.2)
def timeS : FSpec := ⟨[lawD, F32, F32], [F32, .bool], timeG⟩
def yesTG (_ : LT × Fl .f32 × Fl .f32) : Option Bool := some true
def yesTS : FSpec := ⟨[lawD, F32, F32], [.bool], yesTG⟩
end Go.Proofs.Ytjggcekliaalgaa
