/- A step of shares; the program's WarmBack answers as the reference's does, at all arguments. No condition. -/
import Derived.Test.YtdlcebiglolfjaaK11
import Derived.Test.YtdlcebiglolfjaaK7
import Derived.Test.YtdlcebiglolfjaaLG
namespace Go.Proofs.Ytdlcebiglolfjaa
open Go.Ab
def shP (s : Fl .f32) : Prop := shB s = true ∧ (val s = 0 → s = Fl.of .f32 0)
def stepF (x : LT) (s t k : Fl .f32) : Fl .f32 :=
  if (forF x t s).2 = true ∧ fin (fadd (forF x t s).1 k) = true ∧ fgt (afterF x t (fadd (forF x t s).1 k)) s = true then
    (if fge (afterF x t (fadd (forF x t s).1 k)) (Fl.of .f32 1065353216) = true then Fl.of .f32 1065353215 else afterF x t (fadd (forF x t s).1 k))
  else s
open Classical in
noncomputable def stepPG (x : LT × Fl .f32 × Fl .f32 × Fl .f32) : Option (Fl .f32) := if okL x.1 = true ∧ shP x.2.1 ∧ fin x.2.2.1 = true ∧ least x.2.2.2 = true then some (stepF x.1 x.2.1 x.2.2.1 x.2.2.2) else none
noncomputable def stepPS : FSpec := ⟨[.ptr lawD, F32, F32, F32], [F32], stepPG⟩
noncomputable def stepMG (x : LT × Fl .f32 × Fl .f32 × Fl .f32) : Option (Fl .f32) := stepPG x
noncomputable def stepMS : FSpec := ⟨[lawD, F32, F32, F32], [F32], stepMG⟩
noncomputable def stepG (x : LT × Fl .f32 × Fl .f32 × Fl .f32) : Option (Fl .f32 × Bool) := (stepPG x).map fun r => (r, true)
noncomputable def stepS : FSpec := ⟨[lawD, F32, F32, F32], [F32, .bool], stepG⟩
open Classical in
theorem step_some {x : LT} {s t k r : Fl .f32} (h : stepPG (x, s, t, k) = some r) : (okL x = true ∧ shP s ∧ fin t = true ∧ least k = true) ∧ stepF x s t k = r :=
  if_some (show (if okL x = true ∧ shP s ∧ fin t = true ∧ least k = true then some (stepF x s t k) else none) = some r from h)
theorem step_if {x : LT} {s t k : Fl .f32} (h : okL x = true ∧ shP s ∧ fin t = true ∧ least k = true) : stepPG (x, s, t, k) = some (stepF x s t k) := if_pos h
theorem sh_val {s : Fl .f32} (h : shB s = true) : fin s = true ∧ 0 ≤ val s ∧ val s < 1 := by
  have hf := sh_fin h
  unfold shB at h
  rw [Bool.and_eq_true, fge_val hf zero32.1, flt_val hf oneF.1, zero32.2, oneF.2] at h
  exact ⟨hf, of_decide_eq_true h.1, of_decide_eq_true h.2⟩
theorem powN_pn {x : Fl .f32} (h : PN x) : ∀ k, PN (powN x k) := by
  have one : PN (Fl.of .f32 1065353216) := .inl ⟨oneF.1, by rw [oneF.2]; decide +kernel⟩
  rcases h with ⟨h1, h2⟩ | rfl
  · by_cases h3 : val x ≤ 1
    · have key : ∀ k, fin (powN x k) = true ∧ 0 ≤ val (powN x k) ∧ val (powN x k) ≤ 1 := by
        intro k
        induction k with
        | zero => exact ⟨oneF.1, by show 0 ≤ val (Fl.of .f32 1065353216); rw [oneF.2]; decide +kernel, by show val (Fl.of .f32 1065353216) ≤ 1; rw [oneF.2]; decide +kernel⟩
        | succ k ih =>
          have a : 0 ≤ val (powN x k) * val x := Rat.mul_nonneg ih.2.1 h2
          have b : 0 ≤ (1 - val (powN x k)) * val x := Rat.mul_nonneg (by grind) h2
          have c := mul_between (x := powN x k) (y := x) (L := Fl.of .f32 0) (U := Fl.of .f32 1065353216) ih.1 h1 zero32.1 oneF.1 (by rw [zero32.2]; exact a) (by rw [oneF.2]; grind)
          rw [zero32.2, oneF.2] at c
          exact c
      exact fun k => .inl ⟨(key k).1, (key k).2.1⟩
    · intro k
      induction k with
      | zero => exact one
      | succ k ih =>
        show PN (fmul (powN x k) x)
        rcases ih with ⟨a, b⟩ | e
        · exact mul_form a h1 b h2
        · rw [e, mul_inf h1 (by grind)]; exact .inr rfl
  · intro k
    induction k with
    | zero => exact one
    | succ k ih =>
      show PN (fmul (powN (finf .f32 false) k) (finf .f32 false))
      cases k with
      | zero => right; decide +kernel
      | succ j =>
        have e : ∀ j, powN (finf .f32 false) (j + 1) = finf .f32 false := by
          intro j
          induction j with
          | zero => decide +kernel
          | succ j ih2 => show fmul (powN (finf .f32 false) (j + 1)) (finf .f32 false) = _; rw [ih2]; decide +kernel
        rw [e j]; right; decide +kernel
theorem least_val {m : Fl .f32} (h : least m = true) : fin m = true ∧ 0 ≤ val m := by
  unfold least at h
  rw [Bool.and_eq_true] at h
  have := h.2
  rw [fge_val h.1 zero32.1, zero32.2] at this
  exact ⟨h.1, of_decide_eq_true this⟩
theorem least_of {m : Fl .f32} (h : fin m = true) (h0 : 0 ≤ val m) : least m = true := by
  unfold least
  rw [h, fge_val h zero32.1, zero32.2, decide_eq_true h0]; rfl
theorem after_in {x : LT} {t m : Fl .f32} (h : okL x = true) (ht : fin t = true) (hm : least m = true) : fin (afterF x t m) = true ∧ 0 ≤ val (afterF x t m) ∧ val (afterF x t m) ≤ 1 ∧ (val (afterF x t m) = 0 → afterF x t m = Fl.of .f32 0) := by
  obtain ⟨m1, m2⟩ := least_val hm
  have s1 := speed_fin h ht
  have e := expF_in1 (fneg_pn (powN_pn (mul_form s1 m1 (speed_nn h t s1) m2) x.2.2.2.toNat))
  exact one_less e.1 e.2.1 e.2.2
theorem for_nn {x : LT} {t s : Fl .f32} (h : okL x = true) (ht : fin t = true) (hs : shB s = true) (h2 : (forF x t s).2 = true) : fin (forF x t s).1 = true ∧ 0 ≤ val (forF x t s).1 := by
  obtain ⟨_, _, _, _, _, n1, n2⟩ := okL_all h
  unfold forF at h2 ⊢
  by_cases c0 : feq s (Fl.of .f32 0) = true
  · rw [if_pos c0]; exact ⟨zero32.1, by show 0 ≤ val (Fl.of .f32 0); rw [zero32.2]; exact Rat.le_refl⟩
  · rw [if_neg c0] at h2 ⊢
    by_cases c1 : fgt (speedF x t) (Fl.of .f32 0) = true
    · rw [if_pos c1] at h2 ⊢
      split
      · rename_i c2
        have s1 := speed_fin h ht
        rw [fgt_val s1 zero32.1, zero32.2] at c1
        obtain ⟨p0, p1, _⟩ := sh_pos hs c0
        have e := expF_nn (time_exp (sh_fin hs) p0 p1 (n := x.2.2.2) n1 n2)
        have e1 := div_fin_left s1 c2
        exact ⟨c2, NN.div e1 (e e1) s1 (of_decide_eq_true c1) c2⟩
      · rename_i c2
        rw [if_neg c2] at h2; cases h2
    · rw [if_neg c1] at h2; cases h2
theorem sum_least {x : LT} {t s k : Fl .f32} (h : okL x = true) (ht : fin t = true) (hs : shB s = true) (hk : least k = true) (h2 : (forF x t s).2 = true) (h3 : fin (fadd (forF x t s).1 k) = true) : least (fadd (forF x t s).1 k) = true := by
  obtain ⟨a, b⟩ := for_nn h ht hs h2
  obtain ⟨c, d⟩ := least_val hk
  exact least_of h3 (NN.add a c b d h3)
theorem step_shP {x : LT} {s t k : Fl .f32} (h : okL x = true) (hs : shP s) (ht : fin t = true) (hk : least k = true) : shP (stepF x s t k) := by
  unfold stepF
  split
  · rename_i c
    obtain ⟨c1, c2, c3⟩ := c
    obtain ⟨a1, a2, a3, a4⟩ := after_in h ht (sum_least h ht hs.1 hk c1 c2)
    generalize afterF x t (fadd (forF x t s).1 k) = A at *
    split
    · exact ⟨by decide +kernel, fun e => absurd e (by decide +kernel)⟩
    · rename_i c4
      refine ⟨?_, a4⟩
      rw [fge_val a1 oneF.1, oneF.2] at c4
      unfold shB
      rw [fge_val a1 zero32.1, flt_val a1 oneF.1, zero32.2, oneF.2, decide_eq_true a2, decide_eq_true (show val A < 1 by
        have : ¬ (1 : Rat) ≤ val A := fun e => c4 (decide_eq_true e)
        grind)]
      rfl
  · exact hs
def loops_stepP (_ _ _ : Nat) : Option LSpec := none
noncomputable def ss_stepP : List (Nat × FSpec) := [(129, forPS), (81, finS), (132, aftPS)]
theorem ssOk_stepP : FTolds Try.prog ss_stepP := ⟨s_forS, s_l01Finite, s_after, trivial⟩
noncomputable def Γ_stepP : Ctx := ctxOf Try.prog tys fs ss_stepP loops_stepP
noncomputable def d_stepP (a b c : Fl .f32) (n : Int) (s t k : Fl .f32) : Option ((Fl .f32)) := Option.bind (forPG ((a, b, c, n), t, s)) fun (r0 : ((Fl .f32) × Bool)) => (bif r0.2 then (Option.bind (finG (fadd r0.1 k)) fun (r1 : Bool) => (bif r1 then (Option.bind (aftPG ((a, b, c, n), t, fadd r0.1 k)) fun (r2 : (Fl .f32)) => (bif !fgt r2 s then (bif fge s (Fl.of .f32 1065353216) then (some (Fl.of .f32 1065353215)) else (some (s))) else (bif fge r2 (Fl.of .f32 1065353216) then (some (Fl.of .f32 1065353215)) else (some (r2))))) else (bif !fgt s s then (bif fge s (Fl.of .f32 1065353216) then (some (Fl.of .f32 1065353215)) else (some (s))) else (bif fge s (Fl.of .f32 1065353216) then (some (Fl.of .f32 1065353215)) else (some (s)))))) else (bif !fgt s s then (bif fge s (Fl.of .f32 1065353216) then (some (Fl.of .f32 1065353215)) else (some (s))) else (bif fge s (Fl.of .f32 1065353216) then (some (Fl.of .f32 1065353215)) else (some (s)))))
theorem t_stepP (a b c : Fl .f32) (n : Int) (s t k : Fl .f32) : (fnT Γ_stepP 10 83 [.ptr lawD, F32, F32, F32] [F32] ((a, b, c, n), s, t, k)).den = d_stepP a b c n s t k := by kernel_rfl
theorem p_stepP (a b c : Fl .f32) (n : Int) (s t k : Fl .f32) (r : (Fl .f32)) (h : stepPG ((a, b, c, n), s, t, k) = some r) : d_stepP a b c n s t k = some r := by
  obtain ⟨⟨h1, h2, h3, h4⟩, rfl⟩ := step_some h
  obtain ⟨s1, s2, s3⟩ := sh_val h2.1
  have k1 : forPG ((a, b, c, n), t, s) = some (forF (a, b, c, n) t s) := if_pos ⟨h1, h3, h2.1⟩
  have f1 : fgt s s = false := by rw [fgt_val s1 s1]; exact decide_eq_false (by grind)
  have f2 : fge s (Fl.of .f32 1065353216) = false := by rw [fge_val s1 oneF.1, oneF.2]; exact decide_eq_false (by grind)
  unfold d_stepP stepF finG
  simp only [k1, Option.bind_some, f1, f2, Bool.not_false, cond_true, cond_false]
  cases c1 : (forF (a, b, c, n) t s).2 with
  | false => rw [if_neg (fun e => by cases e.1)]; rfl
  | true =>
    cases c2 : fin (fadd (forF (a, b, c, n) t s).1 k) with
    | false => rw [if_neg (fun e => by cases e.2.1)]; rfl
    | true =>
      have k2 : aftPG ((a, b, c, n), t, fadd (forF (a, b, c, n) t s).1 k) = some (afterF (a, b, c, n) t (fadd (forF (a, b, c, n) t s).1 k)) := if_pos ⟨h1, sum_least h1 h3 h2.1 h4 c1 c2⟩
      simp only [k2, Option.bind_some, cond_true]
      cases c3 : fgt (afterF (a, b, c, n) t (fadd (forF (a, b, c, n) t s).1 k)) s with
      | false => rw [if_neg (fun e => by cases e.2.2)]; rfl
      | true =>
        rw [if_pos ⟨by trivial, by trivial, by trivial⟩]
        cases fge (afterF (a, b, c, n) t (fadd (forF (a, b, c, n) t s).1 k)) (Fl.of .f32 1065353216) <;> rfl
theorem s_stepP : FTold Try.prog 83 stepPS := walkedF (fs := fs) (ss := ss_stepP) (loop := loops_stepP) tysOk mixed fnsOk ssOk_stepP 10 83 [.ptr lawD, F32, F32, F32] [F32] rfl _ fun ((a, b, c, n), s, t, k) r h => (t_stepP a b c n s t k).trans (p_stepP a b c n s t k r h)
def loops_stepM (_ _ _ : Nat) : Option LSpec := none
noncomputable def ss_stepM : List (Nat × FSpec) := [(79, timeS), (177, shareS)]
theorem ssOk_stepM : FTolds Try.prog ss_stepM := ⟨s_TimeI, s_ShareI, trivial⟩
noncomputable def Γ_stepM : Ctx := ctxOf Try.prog tys fs ss_stepM loops_stepM
noncomputable def d_stepM (a b c : Fl .f32) (n : Int) (s t k : Fl .f32) : Option ((Fl .f32)) := Option.bind (timeG ((a, b, c, n), t, s)) fun (r0 : ((Fl .f32) × Bool)) => (Option.bind (shareG ((a, b, c, n), t, fadd r0.1 k)) fun (r1 : ((Fl .f32) × Bool)) => (bif !r0.2 then (some (s)) else (bif !r1.2 then (some (s)) else (bif flt r1.1 s then (some (s)) else (bif feq r1.1 (Fl.of .f32 1065353216) then (some (Fl.of .f32 1065353215)) else (some (r1.1)))))))
theorem t_stepM (a b c : Fl .f32) (n : Int) (s t k : Fl .f32) : (fnT Γ_stepM 10 135 [lawD, F32, F32, F32] [F32] ((a, b, c, n), s, t, k)).den = d_stepM a b c n s t k := by kernel_rfl
theorem p_stepM (a b c : Fl .f32) (n : Int) (s t k : Fl .f32) (r : (Fl .f32)) (h : stepMG ((a, b, c, n), s, t, k) = some r) : d_stepM a b c n s t k = some r := by
  obtain ⟨⟨h1, h2, h3, h4⟩, rfl⟩ := step_some h
  obtain ⟨s1, s2, s3⟩ := sh_val h2.1
  have e0 : TimeF (a, b, c, n) t s = forF (a, b, c, n) t s := if_pos ⟨h1, h3, h2.1⟩
  unfold d_stepM stepF timeG shareG
  simp only [Option.bind_some, e0]
  cases c1 : (forF (a, b, c, n) t s).2 with
  | false => rw [if_neg (fun e => by cases e.1)]; rfl
  | true =>
    cases c2 : fin (fadd (forF (a, b, c, n) t s).1 k) with
    | false =>
      have e1 : shareF (a, b, c, n) t (fadd (forF (a, b, c, n) t s).1 k) = (Fl.of .f32 0, false) := if_neg (fun e => by have := (least_val e.2.2).1; rw [c2] at this; cases this)
      rw [if_neg (fun e => by cases e.2.1), e1]; rfl
    | true =>
      have l1 := sum_least h1 h3 h2.1 h4 c1 c2
      obtain ⟨a1, a2, a3, a4⟩ := after_in h1 h3 l1
      have e1 : shareF (a, b, c, n) t (fadd (forF (a, b, c, n) t s).1 k) = (afterF (a, b, c, n) t (fadd (forF (a, b, c, n) t s).1 k), true) := (if_pos ⟨h1, h3, l1⟩).trans (if_pos a1)
      simp only [e1, Bool.not_true, cond_false]
      generalize afterF (a, b, c, n) t (fadd (forF (a, b, c, n) t s).1 k) = A at *
      rw [flt_val a1 s1, fgt_val a1 s1, feq_val a1 oneF.1, fge_val a1 oneF.1, oneF.2]
      by_cases c3 : val A < val s
      · rw [decide_eq_true c3, if_neg (fun e => by have := of_decide_eq_true e.2.2; grind)]; rfl
      · rw [decide_eq_false c3]
        by_cases c4 : val A = 1
        · rw [decide_eq_true c4, if_pos ⟨trivial, trivial, decide_eq_true (by grind)⟩, if_pos (decide_eq_true (by grind))]; rfl
        · rw [decide_eq_false c4]
          by_cases c5 : val s < val A
          · rw [if_pos ⟨trivial, trivial, decide_eq_true c5⟩, if_neg (fun e => by have := of_decide_eq_true e; grind)]; rfl
          · rw [if_neg (fun e => by have := of_decide_eq_true e.2.2; grind)]
            have e2 : A = s := by
              by_cases c6 : val A = 0
              · rw [a4 c6, h2.2 (by grind)]
              · exact val_inj a1 s1 (by grind) c6
            rw [e2]; rfl
theorem s_stepM : FTold Try.prog 135 stepMS := walkedF (fs := fs) (ss := ss_stepM) (loop := loops_stepM) tysOk mixed fnsOk ssOk_stepM 10 135 [lawD, F32, F32, F32] [F32] rfl _ fun ((a, b, c, n), s, t, k) r h => (t_stepM a b c n s t k).trans (p_stepM a b c n s t k r h)
def loops_StepI (_ _ _ : Nat) : Option LSpec := none
noncomputable def ss_StepI : List (Nat × FSpec) := [(75, okLS), (76, shS), (73, finS), (85, leastS), (135, stepMS)]
theorem ssOk_StepI : FTolds Try.prog ss_StepI := ⟨s_lawI, s_shareI, s_IsFinite, s_aMass, s_stepM, trivial⟩
noncomputable def Γ_StepI : Ctx := ctxOf Try.prog tys fs ss_StepI loops_StepI
noncomputable def d_StepI (a b c : Fl .f32) (n : Int) (s t k : Fl .f32) : Option (((Fl .f32) × Bool)) := Option.bind (okLG (a, b, c, n)) fun (r0 : Bool) => (bif !r0 then (some ((Fl.of .f32 0, false))) else (Option.bind (shG s) fun (r1 : Bool) => (bif !r1 then (some ((Fl.of .f32 0, false))) else (Option.bind (finG t) fun (r2 : Bool) => (bif !r2 then (some ((Fl.of .f32 0, false))) else (Option.bind (leastG k) fun (r3 : Bool) => (bif !r3 then (some ((Fl.of .f32 0, false))) else (Option.bind (stepMG ((a, b, c, n), s, t, k)) fun (r4 : (Fl .f32)) => (some ((r4, true)))))))))))
theorem t_StepI (a b c : Fl .f32) (n : Int) (s t k : Fl .f32) : (fnT Γ_StepI 10 86 [lawD, F32, F32, F32] [F32, .bool] ((a, b, c, n), s, t, k)).den = d_StepI a b c n s t k := by kernel_rfl
theorem p_StepI (a b c : Fl .f32) (n : Int) (s t k : Fl .f32) (r : ((Fl .f32) × Bool)) (h : stepG ((a, b, c, n), s, t, k) = some r) : d_StepI a b c n s t k = some r := by
  have h' : (stepPG ((a, b, c, n), s, t, k)).map (fun r => (r, true)) = some r := h
  cases hq : stepPG ((a, b, c, n), s, t, k) with
  | none => rw [hq] at h'; cases h'
  | some v =>
    rw [hq] at h'
    cases h'
    obtain ⟨⟨h1, h2, h3, h4⟩, rfl⟩ := step_some hq
    have h1' : okLG (a, b, c, n) = some true := congrArg some h1
    unfold d_StepI shG finG leastG
    simp only [h1', h2.1, h3, h4, Option.bind_some, Bool.not_true, cond_false]
    rw [show stepMG ((a, b, c, n), s, t, k) = _ from hq]; rfl
theorem s_StepI : FTold Try.prog 86 stepS := walkedF (fs := fs) (ss := ss_StepI) (loop := loops_StepI) tysOk mixed fnsOk ssOk_StepI 10 86 [lawD, F32, F32, F32] [F32, .bool] rfl _ fun ((a, b, c, n), s, t, k) r h => (t_StepI a b c n s t k).trans (p_StepI a b c n s t k r h)
abbrev WA : Type := LT × Fl .f32 × Fl .f32 × Fl .f32 × Fl .f32 × Fl .f32 × Int
def warmN (x : LT) (u v w p q : Fl .f32) : Nat → Fl .f32 × Fl .f32
  | 0 => (u, Fl.of .f32 0)
  | i + 1 => (fadd (fsub (warmN x u v w p q i).1 (fmul (fmul w (fsub (warmN x u v w p q i).1 v)) q)) (fmul p (fsub (stepF x (warmN x u v w p q i).2 (warmN x u v w p q i).1 q) (warmN x u v w p q i).2)), stepF x (warmN x u v w p q i).2 (warmN x u v w p q i).1 q)
theorem warm_sh {x : LT} {u v w p q : Fl .f32} (h : okL x = true) (hq : least q = true) : ∀ i, (∀ j, j < i → fin (warmN x u v w p q j).1 = true) → shP (warmN x u v w p q i).2
  | 0, _ => ⟨by show shB (Fl.of .f32 0) = true; decide +kernel, fun _ => rfl⟩
  | i + 1, hb => step_shP h (warm_sh h hq i (fun j hj => hb j (by omega))) (hb i (by omega)) hq
def warmOk (x : LT) (u v w p q : Fl .f32) (m : Int) : Prop := okL x = true ∧ fin u = true ∧ fin v = true ∧ least w = true ∧ least p = true ∧ least q = true ∧ 1 ≤ m ∧ m ≤ 128 ∧ ∀ i : Nat, (i : Int) < m → fin (warmN x u v w p q i).1 = true
open Classical in
noncomputable def warmF (x : LT) (u v w p q : Fl .f32) (m : Int) : LS × LS × Bool := if warmOk x u v w p q m then (mapR (fun i => (warmN x u v w p q i).1) m.toNat, mapR (fun i => (warmN x u v w p q i).2) m.toNat, true) else ([], [], false)
noncomputable def warmG (x : WA) : Option (LS × LS × Bool) := some (warmF x.1 x.2.1 x.2.2.1 x.2.2.2.1 x.2.2.2.2.1 x.2.2.2.2.2.1 x.2.2.2.2.2.2)
noncomputable def warmS : FSpec := ⟨[lawD, F32, F32, F32, F32, F32, I64], [L32, L32, .bool], warmG⟩
theorem warm_no {x : LT} {u v w p q : Fl .f32} {m : Int} (h : ¬ warmOk x u v w p q m) : warmF x u v w p q m = ([], [], false) := if_neg h
theorem warm_yes {x : LT} {u v w p q : Fl .f32} {m : Int} (h : warmOk x u v w p q m) : warmF x u v w p q m = (mapR (fun i => (warmN x u v w p q i).1) m.toNat, mapR (fun i => (warmN x u v w p q i).2) m.toNat, true) := if_pos h
def L_WarmS_1 : LSpec := ⟨[2, 3, 4, 5, 6, 7, 17, 18, 19, 20, 21], ⟨Shs.at 97 [(2, (.flt FloatKind.f32)), (3, (.flt FloatKind.f32)), (4, (.flt FloatKind.f32)), (5, (.flt FloatKind.f32)), (6, (.int IntKind.i64)), (7, (.ptr 2146435584 0 0)), (17, (.slc 2146435585)), (18, (.slc 2146435586)), (19, (.flt FloatKind.f32)), (20, (.flt FloatKind.f32)), (21, (.int IntKind.i64))], [(2146435584, (.vals true (.cons (.flt FloatKind.f32) (.cons (.flt FloatKind.f32) (.cons (.flt FloatKind.f32) (.cons (.int IntKind.i64) .nil)))))), (2146435585, (.arr true (EK.flt FloatKind.f32))), (2146435586, (.arr true (EK.flt FloatKind.f32)))]⟩, [⟨.ret, [14, 15, 16], ⟨Shs.at 97 [(14, (.slc 2146435584)), (15, (.slc 2146435585)), (16, .bool)], [(2146435584, (.arr true (EK.flt FloatKind.f32))), (2146435585, (.arr true (EK.flt FloatKind.f32)))]⟩⟩, ⟨.ext 0, [17, 18], ⟨Shs.at 97 [(17, (.slc 2146435584)), (18, (.slc 2146435585))], [(2146435584, (.arr true (EK.flt FloatKind.f32))), (2146435585, (.arr true (EK.flt FloatKind.f32)))]⟩⟩], fun _ => bigN⟩
def loops_WarmS (f k n : Nat) : Option LSpec := bif (Nat.beq f 36 && Nat.beq k 8 && Nat.beq n 1) then some L_WarmS_1 else none
abbrev S_WarmS_1 : Type := (((Fl .f32) × ((Fl .f32) × ((Fl .f32) × ((Fl .f32) × (Int × (Nat × (Nat × ((Fl .f32) × ((Fl .f32) × (Int × Unit)))))))))) × (((Fl .f32) × ((Fl .f32) × ((Fl .f32) × (Int × Unit)))) × ((List (Fl .f32)) × ((List (Fl .f32)) × Unit))))
abbrev R_WarmS_1 : Type := (((Nat × (Nat × (Bool × Unit))) × ((List (Fl .f32)) × ((List (Fl .f32)) × Unit))) ⊕ ((Nat × (Nat × Unit)) × ((List (Fl .f32)) × ((List (Fl .f32)) × Unit))))
noncomputable def B_WarmS_1 (y : S_WarmS_1) : Option (S_WarmS_1 ⊕ R_WarmS_1) := bif decide (y.1.2.2.2.2.2.2.2.2.2.1 < y.1.2.2.2.2.1) then (Option.bind (stepPG ((y.2.1.1, y.2.1.2.1, y.2.1.2.2.1, y.2.1.2.2.2.1), y.1.2.2.2.2.2.2.2.2.1, y.1.2.2.2.2.2.2.2.1, y.1.2.2.2.1)) fun (r8 : (Fl .f32)) => (Option.bind (finG (fadd (fsub y.1.2.2.2.2.2.2.2.1 (fmul (fmul y.1.2.1 (fsub y.1.2.2.2.2.2.2.2.1 y.1.1)) y.1.2.2.2.1)) (fmul y.1.2.2.1 (fsub r8 y.1.2.2.2.2.2.2.2.2.1)))) fun (r9 : Bool) => (bif !r9 then (some (Sum.inr (Sum.inl (((0, (0, (false, ()))), ([], ([], ()))))))) else (bif decide (y.1.2.2.2.2.2.1 + 1 ≤ maxA) then (bif decide (y.1.2.2.2.2.2.2.1 + 1 ≤ maxA) then (some (Sum.inl (((y.1.1, (y.1.2.1, (y.1.2.2.1, (y.1.2.2.2.1, (y.1.2.2.2.2.1, ((sub y.2.2.1 0 y.1.2.2.2.2.2.1 ++ [fadd (fsub y.1.2.2.2.2.2.2.2.1 (fmul (fmul y.1.2.1 (fsub y.1.2.2.2.2.2.2.2.1 y.1.1)) y.1.2.2.2.1)) (fmul y.1.2.2.1 (fsub r8 y.1.2.2.2.2.2.2.2.2.1))]).length, ((sub y.2.2.2.1 0 y.1.2.2.2.2.2.2.1 ++ [r8]).length, (fadd (fsub y.1.2.2.2.2.2.2.2.1 (fmul (fmul y.1.2.1 (fsub y.1.2.2.2.2.2.2.2.1 y.1.1)) y.1.2.2.2.1)) (fmul y.1.2.2.1 (fsub r8 y.1.2.2.2.2.2.2.2.2.1)), (r8, (IntKind.i64.wrap (y.1.2.2.2.2.2.2.2.2.2.1 + 1), ())))))))))), ((y.2.1.1, (y.2.1.2.1, (y.2.1.2.2.1, (y.2.1.2.2.2.1, ())))), (sub y.2.2.1 0 y.1.2.2.2.2.2.1 ++ [fadd (fsub y.1.2.2.2.2.2.2.2.1 (fmul (fmul y.1.2.1 (fsub y.1.2.2.2.2.2.2.2.1 y.1.1)) y.1.2.2.2.1)) (fmul y.1.2.2.1 (fsub r8 y.1.2.2.2.2.2.2.2.2.1))], (sub y.2.2.2.1 0 y.1.2.2.2.2.2.2.1 ++ [r8], ()))))))) else (none)) else (none))))) else (some (Sum.inr (Sum.inr (((y.1.2.2.2.2.2.1, (y.1.2.2.2.2.2.2.1, ())), (y.2.2.1, (y.2.2.2.1, ())))))))
noncomputable def ss_WarmS : List (Nat × FSpec) := [(80, okPS), (81, finS), (82, leastS), (69, withinS), (83, stepPS)]
theorem ssOk_WarmS : FTolds Try.prog ss_WarmS := ⟨s_lawS, s_l01Finite, s_least, s_l00In, s_stepP, trivial⟩
noncomputable def Γ_WarmS : Ctx := ctxOf Try.prog tys fs ss_WarmS loops_WarmS
noncomputable def d_WarmS (a b c : Fl .f32) (n : Int) (u v w p q : Fl .f32) (m : Int) : Option (((List (Fl .f32)) × ((List (Fl .f32)) × Bool))) := Option.bind (okPG (a, b, c, n)) fun (r0 : Bool) => (bif !r0 then (some (([], ([], false)))) else (Option.bind (finG u) fun (r1 : Bool) => (bif !r1 then (some (([], ([], false)))) else (Option.bind (finG v) fun (r2 : Bool) => (bif !r2 then (some (([], ([], false)))) else (Option.bind (leastG w) fun (r3 : Bool) => (bif !r3 then (some (([], ([], false)))) else (Option.bind (leastG p) fun (r4 : Bool) => (bif !r4 then (some (([], ([], false)))) else (Option.bind (leastG q) fun (r5 : Bool) => (bif !r5 then (some (([], ([], false)))) else (Option.bind (withinG (m, 1, 128)) fun (r6 : Bool) => (bif !r6 then (some (([], ([], false)))) else (Option.bind (iter B_WarmS_1 bigN (((v, (w, (p, (q, (m, (1, (1, (u, (Fl.of .f32 0, (1, ())))))))))), ((a, (b, (c, (n, ())))), (u :: [], (Fl.of .f32 0 :: [], ())))))) fun (r7 : (((Nat × (Nat × (Bool × Unit))) × ((List (Fl .f32)) × ((List (Fl .f32)) × Unit))) ⊕ ((Nat × (Nat × Unit)) × ((List (Fl .f32)) × ((List (Fl .f32)) × Unit))))) => (match r7 with | .inl x10 => (some ((sub x10.2.1 0 x10.1.1, (sub x10.2.2.1 0 x10.1.2.1, x10.1.2.2.1)))) | .inr x10 => (some ((sub x10.2.1 0 x10.1.1, (sub x10.2.2.1 0 x10.1.2.1, true)))))))))))))))))))
theorem t_WarmS (a b c : Fl .f32) (n : Int) (u v w p q : Fl .f32) (m : Int) : (fnT Γ_WarmS 10 36 [lawD, F32, F32, F32, F32, F32, I64] [L32, L32, .bool] ((a, b, c, n), u, v, w, p, q, m)).den = d_WarmS a b c n u v w p q m := by kernel_rfl
theorem p_WarmS (a b c : Fl .f32) (n : Int) (u v w p q : Fl .f32) (m : Int) (r : ((List (Fl .f32)) × ((List (Fl .f32)) × Bool))) (h : warmG ((a, b, c, n), u, v, w, p, q, m) = some r) : d_WarmS a b c n u v w p q m = some r := by
  refine Eq.trans ?_ h
  unfold d_WarmS warmG okPG finG leastG withinG
  simp only [Option.bind_some]
  cases h1 : okL (a, b, c, n) with
  | false => rw [warm_no fun k => by have := k.1; rw [h1] at this; cases this]; rfl
  | true =>
  cases h2 : fin u with
  | false => rw [warm_no fun k => by have := k.2.1; rw [h2] at this; cases this]; rfl
  | true =>
  cases h3 : fin v with
  | false => rw [warm_no fun k => by have := k.2.2.1; rw [h3] at this; cases this]; rfl
  | true =>
  cases h4 : least w with
  | false => rw [warm_no fun k => by have := k.2.2.2.1; rw [h4] at this; cases this]; rfl
  | true =>
  cases h5 : least p with
  | false => rw [warm_no fun k => by have := k.2.2.2.2.1; rw [h5] at this; cases this]; rfl
  | true =>
  cases h6 : least q with
  | false => rw [warm_no fun k => by have := k.2.2.2.2.2.1; rw [h6] at this; cases this]; rfl
  | true =>
  by_cases h7 : 1 ≤ m
  case neg => rw [warm_no fun k => h7 k.2.2.2.2.2.2.1, decide_eq_false h7]; rfl
  by_cases h8 : m ≤ 128
  case neg => rw [warm_no fun k => h8 k.2.2.2.2.2.2.2.1, decide_eq_false h8, decide_eq_true h7]; rfl
  obtain ⟨j, rfl⟩ : ∃ j : Nat, m = j := ⟨m.toNat, by omega⟩
  rw [decide_eq_true h7, decide_eq_true h8]
  simp only [Bool.not_true, cond_false, Bool.and_self]
  have key := iter_find2 (B := B_WarmS_1) (fun i => ((v, (w, (p, (q, ((j : Int), (i, (i, ((warmN (a, b, c, n) u v w p q (i - 1)).1, ((warmN (a, b, c, n) u v w p q (i - 1)).2, ((i : Int), ())))))))))), ((a, (b, (c, (n, ())))), (mapR (fun i => (warmN (a, b, c, n) u v w p q i).1) i, (mapR (fun i => (warmN (a, b, c, n) u v w p q i).2) i, ()))))) 1 j (fun i => if fin (warmN (a, b, c, n) u v w p q i).1 = true then none else some (.inl ((0, (0, (false, ()))), ([], ([], ()))))) (.inr ((j, (j, ())), (mapR (fun i => (warmN (a, b, c, n) u v w p q i).1) j, (mapR (fun i => (warmN (a, b, c, n) u v w p q i).2) j, ())))) (by omega) (by omega) (fun i hi0 hi hb => by
    obtain ⟨i, rfl⟩ : ∃ i', i = i' + 1 := ⟨i - 1, by omega⟩
    have hall : ∀ l, l < i + 1 → fin (warmN (a, b, c, n) u v w p q l).1 = true := fun l hl => by
      cases l with
      | zero => exact h2
      | succ l => exact none_of (hb (l + 1) (by omega) hl)
    have hs := warm_sh h1 h6 i (fun l hl => hall l (by omega))
    have k2 : stepPG ((a, b, c, n), (warmN (a, b, c, n) u v w p q i).2, (warmN (a, b, c, n) u v w p q i).1, q) = some (warmN (a, b, c, n) u v w p q (i + 1)).2 := step_if ⟨h1, hs, hall i (by omega), h6⟩
    have k3 : fadd (fsub (warmN (a, b, c, n) u v w p q i).1 (fmul (fmul w (fsub (warmN (a, b, c, n) u v w p q i).1 v)) q)) (fmul p (fsub (warmN (a, b, c, n) u v w p q (i + 1)).2 (warmN (a, b, c, n) u v w p q i).2)) = (warmN (a, b, c, n) u v w p q (i + 1)).1 := rfl
    unfold B_WarmS_1 finG
    simp only [ltT hi, inc64 hi (show j < 2 ^ 62 by omega), cond_true, Nat.add_sub_cancel, Option.bind_some, k2, k3]
    by_cases e : fin (warmN (a, b, c, n) u v w p q (i + 1)).1 = true
    · rw [if_pos e, e]
      simp only [Bool.not_true, cond_false, maxA_one (show i + 1 < 2 ^ 30 by omega), cond_true, sub_mapR, ← mapR_succ (fun i => (warmN (a, b, c, n) u v w p q i).1) (i + 1), ← mapR_succ (fun i => (warmN (a, b, c, n) u v w p q i).2) (i + 1), mapR_len]
    · rw [if_neg e, Bool.eq_false_iff.2 e]; rfl) (fun _ => by
    unfold B_WarmS_1
    simp only [ltF, cond_false])
  refine (congrArg (fun z => Option.bind z _) (show iter B_WarmS_1 bigN _ = _ from key)).trans ?_
  rcases firstOf_const (fun i => fin (warmN (a, b, c, n) u v w p q i).1) (.inl ((0, (0, (false, ()))), ([], ([], ()))) : R_WarmS_1) (j - 1) 1 with ⟨z, hall⟩ | ⟨z, l, hl0, hl, hbad⟩
  · rw [z]
    have ok : warmOk (a, b, c, n) u v w p q j := ⟨h1, h2, h3, h4, h5, h6, h7, h8, fun i hi => by
      cases i with
      | zero => exact h2
      | succ i => exact hall (i + 1) (by omega) (by omega)⟩
    rw [warm_yes ok]
    simp only [Option.getD_none, Option.bind_some, sub_mapR, Int.toNat_natCast]
  · rw [z, warm_no fun k => by have := k.2.2.2.2.2.2.2.2 l (by omega); rw [hbad] at this; cases this]
    rfl
theorem s_WarmS : FTold Try.prog 36 warmS := walkedF (fs := fs) (ss := ss_WarmS) (loop := loops_WarmS) tysOk mixed fnsOk ssOk_WarmS 10 36 [lawD, F32, F32, F32, F32, F32, I64] [L32, L32, .bool] rfl _ fun ((a, b, c, n), u, v, w, p, q, m) r h => (t_WarmS a b c n u v w p q m).trans (p_WarmS a b c n u v w p q m r h)
def L_WarmI_1 : LSpec := ⟨[2, 3, 4, 5, 6, 7, 17, 18, 19], ⟨Shs.at 113 [(2, (.flt FloatKind.f32)), (3, (.flt FloatKind.f32)), (4, (.flt FloatKind.f32)), (5, (.flt FloatKind.f32)), (6, (.int IntKind.i64)), (7, (.ptr 2146435392 0 0)), (17, (.slc 2146435393)), (18, (.slc 2146435394)), (19, (.int IntKind.i64))], [(2146435392, (.vals true (.cons (.flt FloatKind.f32) (.cons (.flt FloatKind.f32) (.cons (.flt FloatKind.f32) (.cons (.int IntKind.i64) .nil)))))), (2146435393, (.arr true (EK.flt FloatKind.f32))), (2146435394, (.arr true (EK.flt FloatKind.f32)))]⟩, [⟨.ret, [14, 15, 16], ⟨Shs.at 113 [(14, (.slc 2146435392)), (15, (.slc 2146435393)), (16, .bool)], [(2146435392, (.arr true (EK.flt FloatKind.f32))), (2146435393, (.arr true (EK.flt FloatKind.f32)))]⟩⟩, ⟨.ext 0, [17, 18], ⟨Shs.at 113 [(17, (.slc 2146435392)), (18, (.slc 2146435393))], [(2146435392, (.arr true (EK.flt FloatKind.f32))), (2146435393, (.arr true (EK.flt FloatKind.f32)))]⟩⟩], fun _ => bigN⟩
def loops_WarmI (f k n : Nat) : Option LSpec := bif (Nat.beq f 37 && Nat.beq k 5 && Nat.beq n 1) then some L_WarmI_1 else none
abbrev S_WarmI_1 : Type := (((Fl .f32) × ((Fl .f32) × ((Fl .f32) × ((Fl .f32) × (Int × (Nat × (Nat × (Int × Unit)))))))) × (((Fl .f32) × ((Fl .f32) × ((Fl .f32) × (Int × Unit)))) × ((List (Fl .f32)) × ((List (Fl .f32)) × Unit))))
abbrev R_WarmI_1 : Type := (((Nat × (Nat × (Bool × Unit))) × ((List (Fl .f32)) × ((List (Fl .f32)) × Unit))) ⊕ ((Nat × (Nat × Unit)) × ((List (Fl .f32)) × ((List (Fl .f32)) × Unit))))
noncomputable def B_WarmI_1 (y : S_WarmI_1) : Option (S_WarmI_1 ⊕ R_WarmI_1) := bif decide (y.1.2.2.2.2.2.2.2.1 < y.1.2.2.2.2.1) then (bif inB (IntKind.i64.wrap (y.1.2.2.2.2.2.2.2.1 - 1)) y.1.2.2.2.2.2.1 then (bif inB (IntKind.i64.wrap (y.1.2.2.2.2.2.2.2.1 - 1)) y.1.2.2.2.2.2.2.1 then (Option.bind (stepG ((y.2.1.1, y.2.1.2.1, y.2.1.2.2.1, y.2.1.2.2.2.1), List.getD y.2.2.2.1 (0 + (IntKind.i64.wrap (y.1.2.2.2.2.2.2.2.1 - 1)).toNat) dN, List.getD y.2.2.1 (0 + (IntKind.i64.wrap (y.1.2.2.2.2.2.2.2.1 - 1)).toNat) dN, y.1.2.2.2.1)) fun (r7 : ((Fl .f32) × Bool)) => (bif !r7.2 then (some (Sum.inr (Sum.inl (((0, (0, (false, ()))), ([], ([], ()))))))) else (Option.bind (finG (fadd (fsub (List.getD y.2.2.1 (0 + (IntKind.i64.wrap (y.1.2.2.2.2.2.2.2.1 - 1)).toNat) dN) (fmul (fmul y.1.2.1 (fsub (List.getD y.2.2.1 (0 + (IntKind.i64.wrap (y.1.2.2.2.2.2.2.2.1 - 1)).toNat) dN) y.1.1)) y.1.2.2.2.1)) (fmul y.1.2.2.1 (fsub r7.1 (List.getD y.2.2.2.1 (0 + (IntKind.i64.wrap (y.1.2.2.2.2.2.2.2.1 - 1)).toNat) dN))))) fun (r8 : Bool) => (bif !r8 then (some (Sum.inr (Sum.inl (((0, (0, (false, ()))), ([], ([], ()))))))) else (bif decide (y.1.2.2.2.2.2.1 + 1 ≤ maxA) then (bif decide (y.1.2.2.2.2.2.2.1 + 1 ≤ maxA) then (some (Sum.inl (((y.1.1, (y.1.2.1, (y.1.2.2.1, (y.1.2.2.2.1, (y.1.2.2.2.2.1, ((sub y.2.2.1 0 y.1.2.2.2.2.2.1 ++ [fadd (fsub (List.getD y.2.2.1 (0 + (IntKind.i64.wrap (y.1.2.2.2.2.2.2.2.1 - 1)).toNat) dN) (fmul (fmul y.1.2.1 (fsub (List.getD y.2.2.1 (0 + (IntKind.i64.wrap (y.1.2.2.2.2.2.2.2.1 - 1)).toNat) dN) y.1.1)) y.1.2.2.2.1)) (fmul y.1.2.2.1 (fsub r7.1 (List.getD y.2.2.2.1 (0 + (IntKind.i64.wrap (y.1.2.2.2.2.2.2.2.1 - 1)).toNat) dN)))]).length, ((sub y.2.2.2.1 0 y.1.2.2.2.2.2.2.1 ++ [r7.1]).length, (IntKind.i64.wrap (y.1.2.2.2.2.2.2.2.1 + 1), ())))))))), ((y.2.1.1, (y.2.1.2.1, (y.2.1.2.2.1, (y.2.1.2.2.2.1, ())))), (sub y.2.2.1 0 y.1.2.2.2.2.2.1 ++ [fadd (fsub (List.getD y.2.2.1 (0 + (IntKind.i64.wrap (y.1.2.2.2.2.2.2.2.1 - 1)).toNat) dN) (fmul (fmul y.1.2.1 (fsub (List.getD y.2.2.1 (0 + (IntKind.i64.wrap (y.1.2.2.2.2.2.2.2.1 - 1)).toNat) dN) y.1.1)) y.1.2.2.2.1)) (fmul y.1.2.2.1 (fsub r7.1 (List.getD y.2.2.2.1 (0 + (IntKind.i64.wrap (y.1.2.2.2.2.2.2.2.1 - 1)).toNat) dN)))], (sub y.2.2.2.1 0 y.1.2.2.2.2.2.2.1 ++ [r7.1], ()))))))) else (none)) else (none)))))) else (none)) else (none)) else (some (Sum.inr (Sum.inr (((y.1.2.2.2.2.2.1, (y.1.2.2.2.2.2.2.1, ())), (y.2.2.1, (y.2.2.2.1, ())))))))
noncomputable def ss_WarmI : List (Nat × FSpec) := [(75, okLS), (84, allFinS), (85, leastS), (71, withinS), (86, stepS), (73, finS)]
theorem ssOk_WarmI : FTolds Try.prog ss_WarmI := ⟨s_lawI, s_areFinite, s_aMass, s_within, s_StepI, s_IsFinite, trivial⟩
noncomputable def Γ_WarmI : Ctx := ctxOf Try.prog tys fs ss_WarmI loops_WarmI
noncomputable def d_WarmI (a b c : Fl .f32) (n : Int) (u v w p q : Fl .f32) (m : Int) : Option (((List (Fl .f32)) × ((List (Fl .f32)) × Bool))) := Option.bind (okLG (a, b, c, n)) fun (r0 : Bool) => (bif !r0 then (some (([], ([], false)))) else (Option.bind (allFinG (sub [u, v] 0 2)) fun (r1 : Bool) => (bif !r1 then (some (([], ([], false)))) else (Option.bind (leastG w) fun (r2 : Bool) => (bif !r2 then (some (([], ([], false)))) else (Option.bind (leastG p) fun (r3 : Bool) => (bif !r3 then (some (([], ([], false)))) else (Option.bind (leastG q) fun (r4 : Bool) => (bif !r4 then (some (([], ([], false)))) else (Option.bind (withinG (m, 1, 128)) fun (r5 : Bool) => (bif !r5 then (some (([], ([], false)))) else (Option.bind (iter B_WarmI_1 bigN (((v, (w, (p, (q, (m, (1, (1, (1, ())))))))), ((a, (b, (c, (n, ())))), (u :: [], (Fl.of .f32 0 :: [], ())))))) fun (r6 : (((Nat × (Nat × (Bool × Unit))) × ((List (Fl .f32)) × ((List (Fl .f32)) × Unit))) ⊕ ((Nat × (Nat × Unit)) × ((List (Fl .f32)) × ((List (Fl .f32)) × Unit))))) => (match r6 with | .inl x9 => (some ((sub x9.2.1 0 x9.1.1, (sub x9.2.2.1 0 x9.1.2.1, x9.1.2.2.1)))) | .inr x9 => (some ((sub x9.2.1 0 x9.1.1, (sub x9.2.2.1 0 x9.1.2.1, true)))))))))))))))))
theorem t_WarmI (a b c : Fl .f32) (n : Int) (u v w p q : Fl .f32) (m : Int) : (fnT Γ_WarmI 10 37 [lawD, F32, F32, F32, F32, F32, I64] [L32, L32, .bool] ((a, b, c, n), u, v, w, p, q, m)).den = d_WarmI a b c n u v w p q m := by kernel_rfl
theorem p_WarmI (a b c : Fl .f32) (n : Int) (u v w p q : Fl .f32) (m : Int) (r : ((List (Fl .f32)) × ((List (Fl .f32)) × Bool))) (h : warmG ((a, b, c, n), u, v, w, p, q, m) = some r) : d_WarmI a b c n u v w p q m = some r := by
  refine Eq.trans ?_ h
  have q0 : allFinG (sub [u, v] 0 2) = some (fin u && (fin v && true)) := (if_pos (show [u, v].length < 2 ^ 62 by simp)).trans rfl
  unfold d_WarmI warmG okLG leastG withinG
  simp only [Option.bind_some, q0]
  cases h1 : okL (a, b, c, n) with
  | false => rw [warm_no fun k => by have := k.1; rw [h1] at this; cases this]; rfl
  | true =>
  cases h2 : fin u with
  | false => rw [warm_no fun k => by have := k.2.1; rw [h2] at this; cases this]; rfl
  | true =>
  cases h3 : fin v with
  | false => rw [warm_no fun k => by have := k.2.2.1; rw [h3] at this; cases this]; rfl
  | true =>
  cases h4 : least w with
  | false => rw [warm_no fun k => by have := k.2.2.2.1; rw [h4] at this; cases this]; rfl
  | true =>
  cases h5 : least p with
  | false => rw [warm_no fun k => by have := k.2.2.2.2.1; rw [h5] at this; cases this]; rfl
  | true =>
  cases h6 : least q with
  | false => rw [warm_no fun k => by have := k.2.2.2.2.2.1; rw [h6] at this; cases this]; rfl
  | true =>
  by_cases h7 : 1 ≤ m
  case neg => rw [warm_no fun k => h7 k.2.2.2.2.2.2.1, decide_eq_false h7]; rfl
  by_cases h8 : m ≤ 128
  case neg => rw [warm_no fun k => h8 k.2.2.2.2.2.2.2.1, decide_eq_false h8, decide_eq_true h7]; rfl
  obtain ⟨j, rfl⟩ : ∃ j : Nat, m = j := ⟨m.toNat, by omega⟩
  rw [decide_eq_true h7, decide_eq_true h8]
  simp only [Bool.not_true, cond_false, Bool.and_self]
  have key := iter_find2 (B := B_WarmI_1) (fun i => ((v, (w, (p, (q, ((j : Int), (i, (i, ((i : Int), ())))))))), ((a, (b, (c, (n, ())))), (mapR (fun i => (warmN (a, b, c, n) u v w p q i).1) i, (mapR (fun i => (warmN (a, b, c, n) u v w p q i).2) i, ()))))) 1 j (fun i => if fin (warmN (a, b, c, n) u v w p q i).1 = true then none else some (.inl ((0, (0, (false, ()))), ([], ([], ()))))) (.inr ((j, (j, ())), (mapR (fun i => (warmN (a, b, c, n) u v w p q i).1) j, (mapR (fun i => (warmN (a, b, c, n) u v w p q i).2) j, ())))) (by omega) (by omega) (fun i hi0 hi hb => by
    obtain ⟨i, rfl⟩ : ∃ i', i = i' + 1 := ⟨i - 1, by omega⟩
    have hall : ∀ l, l < i + 1 → fin (warmN (a, b, c, n) u v w p q l).1 = true := fun l hl => by
      cases l with
      | zero => exact h2
      | succ l => exact none_of (hb (l + 1) (by omega) hl)
    have hs := warm_sh h1 h6 i (fun l hl => hall l (by omega))
    have k1 : stepPG ((a, b, c, n), (warmN (a, b, c, n) u v w p q i).2, (warmN (a, b, c, n) u v w p q i).1, q) = some (warmN (a, b, c, n) u v w p q (i + 1)).2 := step_if ⟨h1, hs, hall i (by omega), h6⟩
    have k2 : stepG ((a, b, c, n), (warmN (a, b, c, n) u v w p q i).2, (warmN (a, b, c, n) u v w p q i).1, q) = some ((warmN (a, b, c, n) u v w p q (i + 1)).2, true) := by unfold stepG; rw [k1]; rfl
    have k3 : fadd (fsub (warmN (a, b, c, n) u v w p q i).1 (fmul (fmul w (fsub (warmN (a, b, c, n) u v w p q i).1 v)) q)) (fmul p (fsub (warmN (a, b, c, n) u v w p q (i + 1)).2 (warmN (a, b, c, n) u v w p q i).2)) = (warmN (a, b, c, n) u v w p q (i + 1)).1 := rfl
    unfold B_WarmI_1 finG
    simp only [ltT hi, dec64 (show 1 ≤ i + 1 by omega) (show i + 1 < 2 ^ 62 by omega), Nat.add_sub_cancel, inB_of (show i < i + 1 by omega), inc64 hi (show j < 2 ^ 62 by omega), cond_true, Int.toNat_natCast, Nat.zero_add, mapR_get _ _ (show i < i + 1 by omega), Option.bind_some, k2, k3]
    by_cases e : fin (warmN (a, b, c, n) u v w p q (i + 1)).1 = true
    · rw [if_pos e, e]
      simp only [Bool.not_true, cond_false, maxA_one (show i + 1 < 2 ^ 30 by omega), cond_true, sub_mapR, ← mapR_succ (fun i => (warmN (a, b, c, n) u v w p q i).1) (i + 1), ← mapR_succ (fun i => (warmN (a, b, c, n) u v w p q i).2) (i + 1), mapR_len]
    · rw [if_neg e, Bool.eq_false_iff.2 e]; rfl) (fun _ => by
    unfold B_WarmI_1
    simp only [ltF, cond_false])
  refine (congrArg (fun z => Option.bind z _) (show iter B_WarmI_1 bigN _ = _ from key)).trans ?_
  rcases firstOf_const (fun i => fin (warmN (a, b, c, n) u v w p q i).1) (.inl ((0, (0, (false, ()))), ([], ([], ()))) : R_WarmI_1) (j - 1) 1 with ⟨z, hall⟩ | ⟨z, l, hl0, hl, hbad⟩
  · rw [z]
    have ok : warmOk (a, b, c, n) u v w p q j := ⟨h1, h2, h3, h4, h5, h6, h7, h8, fun i hi => by
      cases i with
      | zero => exact h2
      | succ i => exact hall (i + 1) (by omega) (by omega)⟩
    rw [warm_yes ok]
    simp only [Option.getD_none, Option.bind_some, sub_mapR, Int.toNat_natCast]
  · rw [z, warm_no fun k => by have := k.2.2.2.2.2.2.2.2 l (by omega); rw [hbad] at this; cases this]
    rfl
theorem s_WarmI : FTold Try.prog 37 warmS := walkedF (fs := fs) (ss := ss_WarmI) (loop := loops_WarmI) tysOk mixed fnsOk ssOk_WarmI 10 37 [lawD, F32, F32, F32, F32, F32, I64] [L32, L32, .bool] rfl _ fun ((a, b, c, n), u, v, w, p, q, m) r h => (t_WarmI a b c n u v w p q m).trans (p_WarmI a b c n u v w p q m r h)
theorem warm_len (x : LT) (u v w p q : Fl .f32) (m : Int) : (warmF x u v w p q m).1.length ≤ 128 ∧ (warmF x u v w p q m).2.1.length ≤ 128 := by
  by_cases h : warmOk x u v w p q m
  · rw [warm_yes h, mapR_len, mapR_len]
    have := h.2.2.2.2.2.2.2.1
    omega
  · rw [warm_no h]; exact ⟨Nat.zero_le _, Nat.zero_le _⟩
def yesWG (_ : WA) : Option Bool := some true
def yesWS : FSpec := ⟨[lawD, F32, F32, F32, F32, F32, I64], [.bool], yesWG⟩
def L_lawWarm_1 : LSpec := ⟨[0, 1, 5], ⟨Shs.at 20 [(0, (.slc 1099752)), (1, (.int IntKind.i64)), (5, (.int IntKind.i64))], [(1032, (.vals true (.cons (.flt FloatKind.f32) (.cons (.flt FloatKind.f32) (.cons (.flt FloatKind.f32) (.cons (.int IntKind.i64) .nil)))))), (1086440, (.arr true (EK.flt FloatKind.f32))), (1086441, (.arr true (EK.flt FloatKind.f32))), (1099752, (.arr true (EK.flt FloatKind.f32))), (1099753, (.arr true (EK.flt FloatKind.f32)))]⟩, [⟨.ext 0, [1], ⟨Shs.at 20 [(1, (.int IntKind.i64))], [(1032, (.vals true (.cons (.flt FloatKind.f32) (.cons (.flt FloatKind.f32) (.cons (.flt FloatKind.f32) (.cons (.int IntKind.i64) .nil)))))), (1086440, (.arr true (EK.flt FloatKind.f32))), (1086441, (.arr true (EK.flt FloatKind.f32))), (1099752, (.arr true (EK.flt FloatKind.f32))), (1099753, (.arr true (EK.flt FloatKind.f32)))]⟩⟩], fun _ => bigN⟩
def L_lawWarm_2 : LSpec := ⟨[0, 1, 5], ⟨Shs.at 20 [(0, (.slc 1099753)), (1, (.int IntKind.i64)), (5, (.int IntKind.i64))], [(1032, (.vals true (.cons (.flt FloatKind.f32) (.cons (.flt FloatKind.f32) (.cons (.flt FloatKind.f32) (.cons (.int IntKind.i64) .nil)))))), (1086440, (.arr true (EK.flt FloatKind.f32))), (1086441, (.arr true (EK.flt FloatKind.f32))), (1099752, (.arr true (EK.flt FloatKind.f32))), (1099753, (.arr true (EK.flt FloatKind.f32)))]⟩, [⟨.ext 0, [1], ⟨Shs.at 20 [(1, (.int IntKind.i64))], [(1032, (.vals true (.cons (.flt FloatKind.f32) (.cons (.flt FloatKind.f32) (.cons (.flt FloatKind.f32) (.cons (.int IntKind.i64) .nil)))))), (1086440, (.arr true (EK.flt FloatKind.f32))), (1086441, (.arr true (EK.flt FloatKind.f32))), (1099752, (.arr true (EK.flt FloatKind.f32))), (1099753, (.arr true (EK.flt FloatKind.f32)))]⟩⟩], fun _ => bigN⟩
def loops_lawWarm (f k n : Nat) : Option LSpec := bif (Nat.beq f 27 && Nat.beq k 2 && Nat.beq n 1094) then some L_lawWarm_1 else bif (Nat.beq f 27 && Nat.beq k 2 && Nat.beq n 1097) then some L_lawWarm_2 else none
abbrev S_lawWarm_1 : Type := ((Nat × (Int × (Int × Unit))) × (((Fl .f32) × ((Fl .f32) × ((Fl .f32) × (Int × Unit)))) × ((List (Fl .f32)) × ((List (Fl .f32)) × ((List (Fl .f32)) × ((List (Fl .f32)) × Unit))))))
abbrev R_lawWarm_1 : Type := ((Int × Unit) × (((Fl .f32) × ((Fl .f32) × ((Fl .f32) × (Int × Unit)))) × ((List (Fl .f32)) × ((List (Fl .f32)) × ((List (Fl .f32)) × ((List (Fl .f32)) × Unit))))))
noncomputable def B_lawWarm_1 (y : S_lawWarm_1) : Option (S_lawWarm_1 ⊕ R_lawWarm_1) := bif decide (y.1.2.2.1 < (y.1.1 : Int)) then (bif inB y.1.2.2.1 y.1.1 then (some (Sum.inl (((y.1.1, (IntKind.i64.wrap (y.1.2.1 + 1), (IntKind.i64.wrap (y.1.2.2.1 + 1), ()))), ((y.2.1.1, (y.2.1.2.1, (y.2.1.2.2.1, (y.2.1.2.2.2.1, ())))), (y.2.2.1, (y.2.2.2.1, (List.set y.2.2.2.2.1 (0 + Int.toNat y.1.2.2.1) (fofInt .f32 y.1.2.1), (y.2.2.2.2.2.1, ()))))))))) else (none)) else (some (Sum.inr (((y.1.2.1, ()), ((y.2.1.1, (y.2.1.2.1, (y.2.1.2.2.1, (y.2.1.2.2.2.1, ())))), (y.2.2.1, (y.2.2.2.1, (y.2.2.2.2.1, (y.2.2.2.2.2.1, ())))))))))
abbrev S_lawWarm_2 : Type := ((Nat × (Int × (Int × Unit))) × (((Fl .f32) × ((Fl .f32) × ((Fl .f32) × (Int × Unit)))) × ((List (Fl .f32)) × ((List (Fl .f32)) × ((List (Fl .f32)) × ((List (Fl .f32)) × Unit))))))
abbrev R_lawWarm_2 : Type := ((Int × Unit) × (((Fl .f32) × ((Fl .f32) × ((Fl .f32) × (Int × Unit)))) × ((List (Fl .f32)) × ((List (Fl .f32)) × ((List (Fl .f32)) × ((List (Fl .f32)) × Unit))))))
noncomputable def B_lawWarm_2 (y : S_lawWarm_2) : Option (S_lawWarm_2 ⊕ R_lawWarm_2) := bif decide (y.1.2.2.1 < (y.1.1 : Int)) then (bif inB y.1.2.2.1 y.1.1 then (some (Sum.inl (((y.1.1, (IntKind.i64.wrap (y.1.2.1 + 1), (IntKind.i64.wrap (y.1.2.2.1 + 1), ()))), ((y.2.1.1, (y.2.1.2.1, (y.2.1.2.2.1, (y.2.1.2.2.2.1, ())))), (y.2.2.1, (y.2.2.2.1, (y.2.2.2.2.1, (List.set y.2.2.2.2.2.1 (0 + Int.toNat y.1.2.2.1) (fofInt .f32 y.1.2.1), ()))))))))) else (none)) else (some (Sum.inr (((y.1.2.1, ()), ((y.2.1.1, (y.2.1.2.1, (y.2.1.2.2.1, (y.2.1.2.2.2.1, ())))), (y.2.2.1, (y.2.2.2.1, (y.2.2.2.2.1, (y.2.2.2.2.2.1, ())))))))))
noncomputable def ss_lawWarm : List (Nat × FSpec) := [(30, lawCS), (36, warmS), (37, warmS), (26, selfLS), (28, heldS)]
theorem ssOk_lawWarm : FTolds Try.prog ss_lawWarm := ⟨s_toLaw, s_WarmS, s_WarmI, s_eqL, s_heldL, trivial⟩
noncomputable def Γ_lawWarm : Ctx := ctxOf Try.prog tys fs ss_lawWarm loops_lawWarm
noncomputable def d_lawWarm (a b c : Fl .f32) (n : Int) (u v w p q : Fl .f32) (m : Int) : Option (Bool) := Option.bind (lawCG (a, b, c, n)) fun (r0 : ((Fl .f32) × ((Fl .f32) × ((Fl .f32) × Int)))) => (Option.bind (warmG ((r0.1, r0.2.1, r0.2.2.1, r0.2.2.2), u, v, w, p, q, m)) fun (r1 : ((List (Fl .f32)) × ((List (Fl .f32)) × Bool))) => (Option.bind (lawCG (a, b, c, n)) fun (r2 : ((Fl .f32) × ((Fl .f32) × ((Fl .f32) × Int)))) => (Option.bind (warmG ((r2.1, r2.2.1, r2.2.2.1, r2.2.2.2), u, v, w, p, q, m)) fun (r3 : ((List (Fl .f32)) × ((List (Fl .f32)) × Bool))) => (Option.bind (selfLG (sub r3.1 0 (List.length r3.1), sub r1.1 0 (List.length r1.1))) fun (r4 : Bool) => (bif !r4 then (some (false)) else (Option.bind (selfLG (sub r3.2.1 0 (List.length r3.2.1), sub r1.2.1 0 (List.length r1.2.1))) fun (r5 : Bool) => (bif !r5 then (some (false)) else (bif !r3.2.2 == r1.2.2 then (some (false)) else (Option.bind (iter B_lawWarm_1 bigN (((List.length r3.1, (1, (0, ()))), ((a, (b, (c, (n, ())))), (r1.1, (r1.2.1, (r3.1, (r3.2.1, ())))))))) fun (r6 : ((Int × Unit) × (((Fl .f32) × ((Fl .f32) × ((Fl .f32) × (Int × Unit)))) × ((List (Fl .f32)) × ((List (Fl .f32)) × ((List (Fl .f32)) × ((List (Fl .f32)) × Unit))))))) => (Option.bind (iter B_lawWarm_2 bigN (((List.length r3.2.1, (r6.1.1, (0, ()))), ((r6.2.1.1, (r6.2.1.2.1, (r6.2.1.2.2.1, (r6.2.1.2.2.2.1, ())))), (r6.2.2.1, (r6.2.2.2.1, (r6.2.2.2.2.1, (r6.2.2.2.2.2.1, ())))))))) fun (r7 : ((Int × Unit) × (((Fl .f32) × ((Fl .f32) × ((Fl .f32) × (Int × Unit)))) × ((List (Fl .f32)) × ((List (Fl .f32)) × ((List (Fl .f32)) × ((List (Fl .f32)) × Unit))))))) => (Option.bind (heldG (sub r7.2.2.2.2.1 0 (List.length r3.1), 1)) fun (r8 : Int) => (bif decide (r8 < 0) then (some (false)) else (Option.bind (heldG (sub r7.2.2.2.2.2.1 0 (List.length r3.2.1), r8)) fun (r9 : Int) => (bif decide (r9 < 0) then (some (false)) else (bif r9 != r7.1.1 then (some (false)) else (Option.bind (lawCG (r7.2.1.1, r7.2.1.2.1, r7.2.1.2.2.1, r7.2.1.2.2.2.1)) fun (r10 : ((Fl .f32) × ((Fl .f32) × ((Fl .f32) × Int)))) => (Option.bind (warmG ((r10.1, r10.2.1, r10.2.2.1, r10.2.2.2), u, v, w, p, q, m)) fun (r11 : ((List (Fl .f32)) × ((List (Fl .f32)) × Bool))) => (Option.bind (selfLG (sub r11.1 0 (List.length r11.1), sub r7.2.2.1 0 (List.length r1.1))) fun (r12 : Bool) => (bif !r12 then (some (false)) else (Option.bind (selfLG (sub r11.2.1 0 (List.length r11.2.1), sub r7.2.2.2.1 0 (List.length r1.2.1))) fun (r13 : Bool) => (bif !r13 then (some (false)) else (bif !r11.2.2 == r1.2.2 then (some (false)) else (Option.bind (heldG (sub r7.2.2.2.2.1 0 (List.length r3.1), 1)) fun (r14 : Int) => (bif decide (r14 < 0) then (some (false)) else (Option.bind (heldG (sub r7.2.2.2.2.2.1 0 (List.length r3.2.1), r14)) fun (r15 : Int) => (bif decide (r15 < 0) then (some (false)) else (bif r15 != r7.1.1 then (some (false)) else (some (true)))))))))))))))))))))))))))))
theorem t_lawWarm (a b c : Fl .f32) (n : Int) (u v w p q : Fl .f32) (m : Int) : (fnT Γ_lawWarm 10 8 [lawD, F32, F32, F32, F32, F32, I64] [.bool] ((a, b, c, n), u, v, w, p, q, m)).den = d_lawWarm a b c n u v w p q m := by kernel_rfl
theorem k_lawWarm_1 {k : Int} {v0 : (Fl .f32)} {v1 : (Fl .f32)} {v2 : (Fl .f32)} {v3 : Int} {v5 : (List (Fl .f32))} {v6 : (List (Fl .f32))} {v7 : (List (Fl .f32))} {v8 : (List (Fl .f32))} (hb : v7.length < 2 ^ 60) (h0 : 0 ≤ k) (h1 : k < 2 ^ 60) : iter B_lawWarm_1 bigN ((v7.length, (k, (0, ()))), ((v0, (v1, (v2, (v3, ())))), (v5, (v6, (v7, (v8, ())))))) = some ((((k + (v7.length : Int)), ()), ((v0, (v1, (v2, (v3, ())))), (v5, (v6, ((marks k v7.length), (v8, ()))))))) := by
  have key := iter_for (B := B_lawWarm_1) (fun i => ((v7.length, (k + i, ((i : Int), ()))), ((v0, (v1, (v2, (v3, ())))), (v5, (v6, ((markUp k v7 i), (v8, ()))))))) 0 v7.length ((((k + (v7.length : Int)), ()), ((v0, (v1, (v2, (v3, ())))), (v5, (v6, ((marks k v7.length), (v8, ()))))))) (Nat.zero_le _) (by omega) (fun i _ hi => by
    unfold B_lawWarm_1
    simp only [ltT hi, inB_of hi, inc64 hi (show v7.length < 2 ^ 62 by omega), wrapAdd h0 h1 (show i < 2 ^ 60 by omega), Int.toNat_natCast, Nat.zero_add, cond_true, markUp_succ k v7 hi]) (by
    unfold B_lawWarm_1
    simp only [ltF, cond_false, markUp_end])
  simpa only [markUp_zero, Int.natCast_zero, Int.add_zero] using key
theorem k_lawWarm_2 {k : Int} {v0 : (Fl .f32)} {v1 : (Fl .f32)} {v2 : (Fl .f32)} {v3 : Int} {v5 : (List (Fl .f32))} {v6 : (List (Fl .f32))} {v7 : (List (Fl .f32))} {v8 : (List (Fl .f32))} (hb : v8.length < 2 ^ 60) (h0 : 0 ≤ k) (h1 : k < 2 ^ 60) : iter B_lawWarm_2 bigN ((v8.length, (k, (0, ()))), ((v0, (v1, (v2, (v3, ())))), (v5, (v6, (v7, (v8, ())))))) = some ((((k + (v8.length : Int)), ()), ((v0, (v1, (v2, (v3, ())))), (v5, (v6, (v7, ((marks k v8.length), ()))))))) := by
  have key := iter_for (B := B_lawWarm_2) (fun i => ((v8.length, (k + i, ((i : Int), ()))), ((v0, (v1, (v2, (v3, ())))), (v5, (v6, (v7, ((markUp k v8 i), ()))))))) 0 v8.length ((((k + (v8.length : Int)), ()), ((v0, (v1, (v2, (v3, ())))), (v5, (v6, (v7, ((marks k v8.length), ()))))))) (Nat.zero_le _) (by omega) (fun i _ hi => by
    unfold B_lawWarm_2
    simp only [ltT hi, inB_of hi, inc64 hi (show v8.length < 2 ^ 62 by omega), wrapAdd h0 h1 (show i < 2 ^ 60 by omega), Int.toNat_natCast, Nat.zero_add, cond_true, markUp_succ k v8 hi]) (by
    unfold B_lawWarm_2
    simp only [ltF, cond_false, markUp_end])
  simpa only [markUp_zero, Int.natCast_zero, Int.add_zero] using key
theorem held_at {k : Int} {n : Nat} (h0 : 0 ≤ k) (h1 : k < 2 ^ 60) (hn : n < 2 ^ 40) : heldG (marks k n, k) = some (k + (n : Int)) := by
  have : heldG (marks k n, k) = some (k + ((marks k n).length : Int)) := if_pos ⟨by show _ = marks k (marks k n).length; rw [marks_len], by show (marks k n).length < 2 ^ 40; rw [marks_len]; omega, h0, h1⟩
  rw [this, marks_len]
theorem p_lawWarm (a b c : Fl .f32) (n : Int) (u v w p q : Fl .f32) (m : Int) (r : Bool) (h : yesWG ((a, b, c, n), u, v, w, p, q, m) = some r) : d_lawWarm a b c n u v w p q m = some r := by
  cases h
  unfold d_lawWarm
  obtain ⟨⟨g, l, ok⟩, hg⟩ : ∃ z, warmG ((a, b, c, n), u, v, w, p, q, m) = some z := ⟨_, rfl⟩
  have hgl := warm_len (a, b, c, n) u v w p q m
  rw [show warmF (a, b, c, n) u v w p q m = (g, l, ok) from Option.some.inj hg] at hgl
  have l1 : g.length ≤ 128 := hgl.1
  have l2 : l.length ≤ 128 := hgl.2
  have s1 : selfLG (g, g) = some true := if_pos ⟨rfl, by show g.length < 2 ^ 62; omega⟩
  have s2 : selfLG (l, l) = some true := if_pos ⟨rfl, by show l.length < 2 ^ 62; omega⟩
  have q0 : lawCG (a, b, c, n) = some (a, b, c, n) := rfl
  have d1 : decide (1 + (g.length : Int) < 0) = false := decide_eq_false (by omega)
  have d2 : decide (1 + (g.length : Int) + (l.length : Int) < 0) = false := decide_eq_false (by omega)
  have e1 := held_at (k := 1) (n := g.length) (by decide) (by decide) (by omega)
  have e2 := held_at (k := 1 + (g.length : Int)) (n := l.length) (by omega) (by omega) (by omega)
  simp only [q0, hg, Option.bind_some, sub_all, s1, s2, Bool.not_true, cond_false, eq_not_self]
  refine (congrArg (fun z => Option.bind z _) (k_lawWarm_1 (by omega) (by decide) (by decide))).trans ?_
  simp only [Option.bind_some]
  refine (congrArg (fun z => Option.bind z _) (k_lawWarm_2 (by omega) (by omega) (by omega))).trans ?_
  simp only [Option.bind_some, sub_marks, e1, e2, d1, d2, cond_false, eq_bne, q0, hg, sub_all, s1, s2, Bool.not_true, eq_not_self]
theorem s_lawWarm : FTold Try.prog 8 yesWS := walkedF (fs := fs) (ss := ss_lawWarm) (loop := loops_lawWarm) tysOk mixed fnsOk ssOk_lawWarm 10 8 [lawD, F32, F32, F32, F32, F32, I64] [.bool] rfl _ fun ((a, b, c, n), u, v, w, p, q, m) r h => (t_lawWarm a b c n u v w p q m).trans (p_lawWarm a b c n u v w p q m r h)
open Go.RowKit Go.ChangeShapes Go.WideShapes Go.ChangeAt
set_option maxRecDepth 100000 in
theorem lifted_lawWarm (os : Os) (started : os.Started) (H : Type) (enc : TypeId × Value → H) :
    ReturnsInHanded {} Try.checked os 8 .any (Rows.fnExactWarmBackSpec.pre6 enc Try.prog Try.f8 Rows.fnExactWarmBackRow.domain false) (Rows.fnExactWarmBackSpec.post enc Try.prog Try.f8 false true false false) := by
  refine returnsInHanded_of_change (C := Try.checked) own started (by kernel_rfl) Try.func8
    (ChangeSpec.witness6 (enc := enc) (C := Try.checked) false ⟨#[], #[.agg #[.float .f32 0, .float .f32 0, .float .f32 0, .int .i64 0], .float .f32 0, .float .f32 0, .float .f32 0, .float .f32 0, .float .f32 0, .int .i64 0], []⟩ 8 (by kernel_rfl) (by kernel_rfl) (by kernel_rfl) (by kernel_rfl)) ?_
  intro W base args ds gs before hval hW _ _
  exact law_post (P := Try.prog) (fn := Try.f8) (s := Rows.fnExactWarmBackSpec) laidOut s_lawWarm.out Try.func8 rfl (by kernel_rfl) (by kernel_rfl) (by kernel_rfl) rfl Try.underlying4 rfl (fun ds h => by
    match ds, h with
    | [d0, d1, d2, d3, d4, d5, d6], _ => exact ⟨rfl, rfl, rfl⟩) (fun _ _ => rfl) W base args ds gs before hval hW

theorem over8 : Rows.FnExactWarmBackSaid :=
  OpenClaim.holds_of_wide 8 Try.f8 rfl rfl rfl rfl rfl rfl rfl ⟨rfl, rfl, rfl, rfl, rfl⟩ rfl rfl rfl rfl rfl (by kernel_rfl) Try.func8 (by kernel_rfl)
    (of_decide_eq_true (by kernel_rfl)) (by unfold Func.isWrapper; first | (rw [if_pos (by decide +kernel)]; kernel_rfl) | (rw [if_neg (by decide +kernel)]; exact ⟨rfl, rfl⟩))
    (fun os started H enc _ => lifted_lawWarm os started H enc)
end Go.Proofs.Ytdlcebiglolfjaa
