/- The program's TimeFor answers as the reference's does, at all arguments. No condition. -/
import Derived.Test.YtdlcebiglolfjaaK10
import Derived.Test.YtdlcebiglolfjaaLG
namespace Go.Proofs.Ytdlcebiglolfjaa
open Go.Ab
def shB (m : Fl .f32) : Bool := fge m (Fl.of .f32 0) && flt m (Fl.of .f32 1065353216)
def shG (x : Fl .f32) : Option Bool := some (shB x)
def shS : FSpec := ⟨[F32], [.bool], shG⟩
def loops_shareS (_ _ _ : Nat) : Option LSpec := none
noncomputable def ss_shareS : List (Nat × FSpec) := []
theorem ssOk_shareS : FTolds Try.prog ss_shareS := trivial
noncomputable def Γ_shareS : Ctx := ctxOf Try.prog tys fs ss_shareS loops_shareS
noncomputable def d_shareS (x : Fl .f32) : Option (Bool) := bif fge x (Fl.of .f32 0) then (some (flt x (Fl.of .f32 1065353216))) else (some (false))
theorem t_shareS (x : Fl .f32) : (fnT Γ_shareS 10 87 [F32] [.bool] x).den = d_shareS x := by kernel_rfl
theorem p_shareS (x : Fl .f32) (r : Bool) (h : shG x = some r) : d_shareS x = some r := by
  refine Eq.trans ?_ h
  unfold d_shareS shG shB
  cases fge x (Fl.of .f32 0) <;> rfl
theorem s_shareS : FTold Try.prog 87 shS := walkedF (fs := fs) (ss := ss_shareS) (loop := loops_shareS) tysOk mixed fnsOk ssOk_shareS 10 87 [F32] [.bool] rfl _ fun x r h => (t_shareS x).trans (p_shareS x r h)
def loops_shareI (_ _ _ : Nat) : Option LSpec := none
noncomputable def ss_shareI : List (Nat × FSpec) := []
theorem ssOk_shareI : FTolds Try.prog ss_shareI := trivial
noncomputable def Γ_shareI : Ctx := ctxOf Try.prog tys fs ss_shareI loops_shareI
noncomputable def d_shareI (x : Fl .f32) : Option (Bool) := bif fge x (Fl.of .f32 0) then (some (flt x (Fl.of .f32 1065353216))) else (some (false))
theorem t_shareI (x : Fl .f32) : (fnT Γ_shareI 10 76 [F32] [.bool] x).den = d_shareI x := by kernel_rfl
theorem p_shareI (x : Fl .f32) (r : Bool) (h : shG x = some r) : d_shareI x = some r := by
  refine Eq.trans ?_ h
  unfold d_shareI shG shB
  cases fge x (Fl.of .f32 0) <;> rfl
theorem s_shareI : FTold Try.prog 76 shS := walkedF (fs := fs) (ss := ss_shareI) (loop := loops_shareI) tysOk mixed fnsOk ssOk_shareI 10 76 [F32] [.bool] rfl _ fun x r h => (t_shareI x).trans (p_shareI x r h)
theorem okL_all {x : LT} (h : okL x = true) : fin x.1 = true ∧ fin x.2.1 = true ∧ fgt x.2.1 (Fl.of .f32 0) = true ∧ fin x.2.2.1 = true ∧ fgt x.2.2.1 (Fl.of .f32 0) = true ∧ 1 ≤ x.2.2.2 ∧ x.2.2.2 ≤ 4 := by
  unfold okL at h
  cases h1 : fin x.1 <;> cases h2 : fin x.2.1 <;> cases h3 : fgt x.2.1 (Fl.of .f32 0) <;> cases h4 : fin x.2.2.1 <;> cases h5 : fgt x.2.2.1 (Fl.of .f32 0) <;> simp only [h1, h2, h3, h4, h5, cond_true, cond_false, Bool.false_eq_true, Bool.and_eq_true, decide_eq_true_eq] at h
  exact ⟨rfl, rfl, rfl, rfl, rfl, h⟩
theorem speed_fin {x : LT} (h : okL x = true) {t : Fl .f32} (ht : fin t = true) : fin (speedF x t) = true := by
  obtain ⟨a1, a2, a3, a4, a5, _⟩ := okL_all h
  have z := zero32'
  rw [fgt_val a2 z.1, z.2] at a3
  rw [fgt_val a4 z.1, z.2] at a5
  have b0 := of_decide_eq_true a3
  have c0 := of_decide_eq_true a5
  have q := div_no_nan (sub_no_nan ht a1) a2 (by grind)
  unfold speedF
  generalize fdiv (fsub t x.1) x.2.1 = w at q ⊢
  have e : fin (expF (fneg (fmul w w))) = true ∧ 0 ≤ val (expF (fneg (fmul w w))) ∧ val (expF (fneg (fmul w w))) ≤ 1 := by
    refine expF_in1 ?_
    rcases sq_form q with ⟨f, g⟩ | f
    · obtain ⟨f1, f2⟩ := fneg_val f
      exact .inl ⟨f1, by rw [f2]; grind⟩
    · right; rw [f]; decide +kernel
  generalize expF (fneg (fmul w w)) = v at e ⊢
  obtain ⟨e0, e1, e2⟩ := e
  have g1 : 0 ≤ val x.2.2.1 * val v := Rat.mul_nonneg (Rat.le_of_lt c0) e1
  have g2 : 0 ≤ val x.2.2.1 * (1 - val v) := Rat.mul_nonneg (Rat.le_of_lt c0) (by grind)
  exact (mul_between (x := x.2.2.1) (y := v) (L := Fl.of .f32 0) (U := x.2.2.1) a4 e0 z.1 a4 (by rw [z.2]; exact g1) (by grind)).1
theorem sh_fin {m : Fl .f32} (h : shB m = true) : fin m = true := by
  unfold shB at h
  rw [Bool.and_eq_true] at h
  rcases fl_cases m with hf | rfl | ⟨s, rfl, _⟩
  · exact hf
  · exact absurd h.1 (by decide +kernel)
  · cases s
    · exact absurd h.2 (by decide +kernel)
    · exact absurd h.1 (by decide +kernel)
theorem sh_pos {m : Fl .f32} (h : shB m = true) (h0 : ¬ feq m (Fl.of .f32 0) = true) : 0 < val m ∧ val m < 1 ∧ fgt m (Fl.of .f32 0) = true := by
  have hf := sh_fin h
  have z := zero32'
  unfold shB at h
  rw [Bool.and_eq_true, fge_val hf z.1, flt_val hf oneF.1, z.2, oneF.2] at h
  rw [feq_val hf z.1, z.2] at h0
  have h1 := of_decide_eq_true h.1
  have h2 := of_decide_eq_true h.2
  have h3 : ¬ val m = 0 := fun e => h0 (decide_eq_true e)
  have hp : 0 < val m := by grind
  exact ⟨hp, h2, by rw [fgt_val hf z.1, z.2]; exact decide_eq_true hp⟩
theorem sh_zero {m : Fl .f32} (hf : fin m = true) (h0 : feq m (Fl.of .f32 0) = true) : fgt m (Fl.of .f32 0) = false := by
  have z := zero32'
  rw [feq_val hf z.1, z.2] at h0
  rw [fgt_val hf z.1, z.2]
  have := of_decide_eq_true h0
  exact decide_eq_false (by grind)
def forF (x : LT) (t m : Fl .f32) : Fl .f32 × Bool := if feq m (Fl.of .f32 0) = true then (Fl.of .f32 0, true) else if fgt (speedF x t) (Fl.of .f32 0) = true then (if fin (fdiv (expF (fdiv (lnF (fneg (lnF (fsub (Fl.of .f32 1065353216) m)))) (fofInt .f32 x.2.2.2))) (speedF x t)) = true then (fdiv (expF (fdiv (lnF (fneg (lnF (fsub (Fl.of .f32 1065353216) m)))) (fofInt .f32 x.2.2.2))) (speedF x t), true) else (Fl.of .f32 0, false)) else (Fl.of .f32 0, false)
def forPG (x : LT × Fl .f32 × Fl .f32) : Option (Fl .f32 × Bool) := if okL x.1 = true ∧ fin x.2.1 = true ∧ shB x.2.2 = true then some (forF x.1 x.2.1 x.2.2) else none
def forPS : FSpec := ⟨[.ptr lawD, F32, F32], [F32, .bool], forPG⟩
def loops_forS (_ _ _ : Nat) : Option LSpec := none
noncomputable def ss_forS : List (Nat × FSpec) := [(94, spdPS), (136, expS), (171, lnS), (172, toldS)]
theorem ssOk_forS : FTolds Try.prog ss_forS := ⟨s_speedS, s_expS, s_LogS, s_l07Given, trivial⟩
noncomputable def Γ_forS : Ctx := ctxOf Try.prog tys fs ss_forS loops_forS
noncomputable def d_forS (a b c : Fl .f32) (n : Int) (t m : Fl .f32) : Option (((Fl .f32) × Bool)) := bif feq m (Fl.of .f32 0) then (some ((Fl.of .f32 0, true))) else (Option.bind (spdPG ((a, b, c, n), t)) fun (r0 : (Fl .f32)) => (bif !fgt r0 (Fl.of .f32 0) then (some ((Fl.of .f32 0, false))) else (Option.bind (lnG (fsub (Fl.of .f32 1065353216) m)) fun (r1 : (Fl .f32)) => (Option.bind (lnG (fneg r1)) fun (r2 : (Fl .f32)) => (Option.bind (expG (fdiv r2 (fofInt .f32 n))) fun (r3 : (Fl .f32)) => (Option.bind (toldG (fdiv r3 r0)) fun (r4 : ((Fl .f32) × Bool)) => (some ((r4.1, r4.2)))))))))
theorem t_forS (a b c : Fl .f32) (n : Int) (t m : Fl .f32) : (fnT Γ_forS 10 129 [.ptr lawD, F32, F32] [F32, .bool] ((a, b, c, n), t, m)).den = d_forS a b c n t m := by kernel_rfl
theorem p_forS (a b c : Fl .f32) (n : Int) (t m : Fl .f32) (r : ((Fl .f32) × Bool)) (h : forPG ((a, b, c, n), t, m) = some r) : d_forS a b c n t m = some r := by
  obtain ⟨⟨h1, h2, h3⟩, rfl⟩ := if_some (show (if okL (a, b, c, n) = true ∧ fin t = true ∧ shB m = true then some (forF (a, b, c, n) t m) else none) = some r from h)
  obtain ⟨_, _, _, _, _, n1, n2⟩ := okL_all h1
  unfold d_forS forF spdPG lnG
  simp only [Option.bind_some, told_tell5]
  by_cases c0 : feq m (Fl.of .f32 0) = true
  · rw [c0]; rfl
  · obtain ⟨p0, p1, _⟩ := sh_pos h3 c0
    have e := expG_some (time_exp (sh_fin h3) p0 p1 (n := n) n1 n2)
    rw [Bool.eq_false_iff.2 c0, e]
    cases fgt (speedF (a, b, c, n) t) (Fl.of .f32 0) <;> rfl
theorem s_forS : FTold Try.prog 129 forPS := walkedF (fs := fs) (ss := ss_forS) (loop := loops_forS) tysOk mixed fnsOk ssOk_forS 10 129 [.ptr lawD, F32, F32] [F32, .bool] rfl _ fun ((a, b, c, n), t, m) r h => (t_forS a b c n t m).trans (p_forS a b c n t m r h)
def TimeF (x : LT) (t m : Fl .f32) : Fl .f32 × Bool := if okL x = true ∧ fin t = true ∧ shB m = true then forF x t m else (Fl.of .f32 0, false)
def timeG (x : LT × Fl .f32 × Fl .f32) : Option (Fl .f32 × Bool) := some (TimeF x.1 x.2.1 x.2.2)
def timeS : FSpec := ⟨[lawD, F32, F32], [F32, .bool], timeG⟩
def loops_TimeI (_ _ _ : Nat) : Option LSpec := none
noncomputable def ss_TimeI : List (Nat × FSpec) := [(99, SpeedS), (76, shS), (131, expS), (130, lnS), (92, toldS)]
theorem ssOk_TimeI : FTolds Try.prog ss_TimeI := ⟨s_SpeedI, s_shareI, s_expI, s_LogI, s_told, trivial⟩
noncomputable def Γ_TimeI : Ctx := ctxOf Try.prog tys fs ss_TimeI loops_TimeI
noncomputable def d_TimeI (a b c : Fl .f32) (n : Int) (t m : Fl .f32) : Option (((Fl .f32) × Bool)) := Option.bind (SpeedG ((a, b, c, n), t)) fun (r0 : ((Fl .f32) × Bool)) => (bif !r0.2 then (some ((Fl.of .f32 0, false))) else (Option.bind (shG m) fun (r1 : Bool) => (bif !r1 then (some ((Fl.of .f32 0, false))) else (bif fgt m (Fl.of .f32 0) then (bif !fgt r0.1 (Fl.of .f32 0) then (some ((Fl.of .f32 0, false))) else (bif feq m (Fl.of .f32 0) then (some ((Fl.of .f32 0, true))) else (Option.bind (lnG (fsub (Fl.of .f32 1065353216) m)) fun (r2 : (Fl .f32)) => (Option.bind (lnG (fneg r2)) fun (r3 : (Fl .f32)) => (Option.bind (expG (fdiv r3 (fofInt .f32 n))) fun (r4 : (Fl .f32)) => (Option.bind (toldG (fdiv r4 r0.1)) fun (r5 : ((Fl .f32) × Bool)) => (some ((r5.1, r5.2))))))))) else (bif feq m (Fl.of .f32 0) then (some ((Fl.of .f32 0, true))) else (Option.bind (lnG (fsub (Fl.of .f32 1065353216) m)) fun (r6 : (Fl .f32)) => (Option.bind (lnG (fneg r6)) fun (r7 : (Fl .f32)) => (Option.bind (expG (fdiv r7 (fofInt .f32 n))) fun (r8 : (Fl .f32)) => (Option.bind (toldG (fdiv r8 r0.1)) fun (r9 : ((Fl .f32) × Bool)) => (some ((r9.1, r9.2))))))))))))
theorem t_TimeI (a b c : Fl .f32) (n : Int) (t m : Fl .f32) : (fnT Γ_TimeI 10 79 [lawD, F32, F32] [F32, .bool] ((a, b, c, n), t, m)).den = d_TimeI a b c n t m := by kernel_rfl
theorem p_TimeI (a b c : Fl .f32) (n : Int) (t m : Fl .f32) (r : ((Fl .f32) × Bool)) (h : timeG ((a, b, c, n), t, m) = some r) : d_TimeI a b c n t m = some r := by
  refine Eq.trans ?_ h
  unfold d_TimeI timeG TimeF SpeedG SpeedF shG lnG
  simp only [Option.bind_some, told_tell5]
  cases h1 : okL (a, b, c, n) with
  | false => rfl
  | true =>
    cases h2 : fin t with
    | false => rfl
    | true =>
      rw [if_pos ⟨rfl, rfl⟩, if_pos (speed_fin h1 h2)]
      simp only [Bool.not_true, cond_false]
      cases h3 : shB m with
      | false => rfl
      | true =>
        obtain ⟨_, _, _, _, _, n1, n2⟩ := okL_all h1
        simp only [Bool.not_true, cond_false, and_self, if_true]
        unfold forF
        by_cases c0 : feq m (Fl.of .f32 0) = true
        · rw [sh_zero (sh_fin h3) c0, c0]; rfl
        · obtain ⟨p0, p1, p2⟩ := sh_pos h3 c0
          have e := expG_some (time_exp (sh_fin h3) p0 p1 (n := n) n1 n2)
          rw [Bool.eq_false_iff.2 c0, e, p2]
          cases fgt (speedF (a, b, c, n) t) (Fl.of .f32 0) <;> rfl
theorem s_TimeI : FTold Try.prog 79 timeS := walkedF (fs := fs) (ss := ss_TimeI) (loop := loops_TimeI) tysOk mixed fnsOk ssOk_TimeI 10 79 [lawD, F32, F32] [F32, .bool] rfl _ fun ((a, b, c, n), t, m) r h => (t_TimeI a b c n t m).trans (p_TimeI a b c n t m r h)
def yesTG (_ : LT × Fl .f32 × Fl .f32) : Option Bool := some true
def yesTS : FSpec := ⟨[lawD, F32, F32], [.bool], yesTG⟩
end Go.Proofs.Ytdlcebiglolfjaa
