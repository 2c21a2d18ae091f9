/- A step of shares; the program's WarmBack answers as the reference's does, at all arguments. No condition. -/
import Derived.Test.YtjggcekliaalgaaK11
import Derived.Test.YtjggcekliaalgaaK7
import Derived.Test.YtjggcekliaalgaaLG
namespace Go.Proofs.Ytjggcekliaalgaa
open Go.Ab
def shP (s : Fl .f32) : Prop := shB s = true ∧ (val s = 0 → s = Fl.of .f32 0)
def stepF (x : LT) (s t k : Fl .f32) : Fl .f32 :=
  if (forF x t s).2 = true ∧ fin (fadd (forF x t s).1 k) = true ∧ fgt (afterF x t (fadd (forF x t s).1 k)) s = true then
    (if fge (afterF x t (fadd (forF x t s).1 k)) (Fl.of .f32 1065353216) = true then Fl.of .f32 1065353215 else afterF x t (fadd (forF x t s).1 k))
  else s
open Classical in
noncomputable def stepPG (x : LT × Fl .f32 × Fl .f32 × Fl .f32) : Option (Fl .f32) := if okL x.1 = true ∧ shP x.2.1 ∧ fin x.2.2.1 = true ∧ least x.2.2.2 = true then some (stepF x.1 x.2.1 x.2.2.1 x.2.2.2) else none
noncomputable def stepPS : FSpec := ⟨[.ptr lawD, F32, F32, F32], [F32], stepPG⟩
noncomputable def stepMG (x : LT × Fl .f32 × Fl .f32 × Fl .f32) : Option (Fl .f32) := stepPG x
noncomputable def stepMS : FSpec := ⟨[lawD, F32, F32, F32], [F32], stepMG⟩
noncomputable def stepG (x : LT × Fl .f32 × Fl .f32 × Fl .f32) : Option (Fl .f32 × Bool) := (stepPG x).map fun r => (r, true)
noncomputable def stepS : FSpec := ⟨[lawD, F32, F32, F32], [F32, .bool], stepG⟩
open Classical in
theorem step_some {x : LT} {s t k r : Fl .f32} (h : stepPG (x, s, t, k) = some r) : (okL x = true ∧ shP s ∧ fin t = true ∧ least k = true) ∧ stepF x s t k = r :=
  if_some (show (if okL x = true ∧ shP s ∧ fin t = true ∧ least k = true then some (stepF x s t k) else none) = some r from h)
theorem step_if {x : LT} {s t k : Fl .f32} (h : okL x = true ∧ shP s ∧ fin t = true ∧ least k = true) : stepPG (x, s, t, k) = some (stepF x s t k) := if_pos h
theorem sh_val {s : Fl .f32} (h : shB s = true) : fin s = true ∧ 0 ≤ val s ∧ val s < 1 := by
  have hf := sh_fin h
  unfold shB at h
  rw [Bool.and_eq_true, fge_val hf zero32.1, flt_val hf oneF.1, zero32.2, oneF.2] at h
  exact ⟨hf, of_decide_eq_true h.1, of_decide_eq_true h.2⟩
theorem powN_pn {x : Fl .f32} (h : PN x) : ∀ k, PN (powN x k) := by
  have one : PN (Fl.of .f32 1065353216) := .inl ⟨oneF.1, by rw [oneF.2]; decide +kernel⟩
  rcases h with ⟨h1, h2⟩ | rfl
  · by_cases h3 : val x ≤ 1
    · have key : ∀ k, fin (powN x k) = true ∧ 0 ≤ val (powN x k) ∧ val (powN x k) ≤ 1 := by
        intro k
        induction k with
        | zero => exact ⟨oneF.1, by show 0 ≤ val (Fl.of .f32 1065353216); rw [oneF.2]; decide +kernel, by show val (Fl.of .f32 1065353216) ≤ 1; rw [oneF.2]; decide +kernel⟩
        | succ k ih =>
          have a : 0 ≤ val (powN x k) * val x := Rat.mul_nonneg ih.2.1 h2
          have b : 0 ≤ (1 - val (powN x k)) * val x := Rat.mul_nonneg (by grind) h2
          have c := mul_between (x := powN x k) (y := x) (L := Fl.of .f32 0) (U := Fl.of .f32 1065353216) ih.1 h1 zero32.1 oneF.1 (by rw [zero32.2]; exact a) (by rw [oneF.2]; grind)
          rw [zero32.2, oneF.2] at c
          exact c
      exact fun k => .inl ⟨(key k).1, (key k).2.1⟩
    · intro k
      induction k with
      | zero => exact one
      | succ k ih =>
        show PN (fmul (powN x k) x)
        rcases ih with ⟨a, b⟩ | e
        · exact mul_form a h1 b h2
        · rw [e, mul_inf h1 (by grind)]; exact .inr rfl
  · intro k
    induction k with
    | zero => exact one
    | succ k ih =>
      show PN (fmul (powN (finf .f32 false) k) (finf .f32 false))
      cases k with
      | zero => right; decide +kernel
      | succ j =>
        have e : ∀ j, powN (finf .f32 false) (j + 1) = finf .f32 false := by
          intro j
          induction j with
          | zero => decide +kernel
          | succ j ih2 => show fmul (powN (finf .f32 false) (j + 1)) (finf .f32 false) = _; rw [ih2]; decide +kernel
        rw [e j]; right; decide +kernel
theorem least_val {m : Fl .f32} (h : least m = true) : fin m = true ∧ 0 ≤ val m := by
  unfold least at h
  rw [Bool.and_eq_true] at h
  have := h.2
  rw [fge_val h.1 zero32.1, zero32.2] at this
  exact ⟨h.1, of_decide_eq_true this⟩
theorem least_of {m : Fl .f32} (h : fin m = true) (h0 : 0 ≤ val m) : least m = true := by
  unfold least
  rw [h, fge_val h zero32.1, zero32.2, decide_eq_true h0]; rfl
theorem after_in {x : LT} {t m : Fl .f32} (h : okL x = true) (ht : fin t = true) (hm : least m = true) : fin (afterF x t m) = true ∧ 0 ≤ val (afterF x t m) ∧ val (afterF x t m) ≤ 1 ∧ (val (afterF x t m) = 0 → afterF x t m = Fl.of .f32 0) := by
  obtain ⟨m1, m2⟩ := least_val hm
  have s1 := speed_fin h ht
  have e := expF_in1 (fneg_pn (powN_pn (mul_form s1 m1 (speed_nn h t s1) m2) x.2.2.2.toNat))
  exact one_less e.1 e.2.1 e.2.2
theorem for_nn {x : LT} {t s : Fl .f32} (h : okL x = true) (ht : fin t = true) (hs : shB s = true) (h2 : (forF x t s).2 = true) : fin (forF x t s).1 = true ∧ 0 ≤ val (forF x t s).1 := by
  obtain ⟨_, _, _, _, _, n1, n2⟩ := okL_all h
  unfold forF at h2 ⊢
  by_cases c0 : feq s (Fl.of .f32 0) = true
  · rw [if_pos c0]; exact ⟨zero32.1, by show 0 ≤ val (Fl.of .f32 0); rw [zero32.2]; exact Rat.le_refl⟩
  · rw [if_neg c0] at h2 ⊢
    by_cases c1 : fgt (speedF x t) (Fl.of .f32 0) = true
    · rw [if_pos c1] at h2 ⊢
      split
      · rename_i c2
        have s1 := speed_fin h ht
        rw [fgt_val s1 zero32.1, zero32.2] at c1
        obtain ⟨p0, p1, _⟩ := sh_pos hs c0
        have e := expF_nn (time_exp (sh_fin hs) p0 p1 (n := x.2.2.2) n1 n2)
        have e1 := div_fin_left s1 c2
        exact ⟨c2, NN.div e1 (e e1) s1 (of_decide_eq_true c1) c2⟩
      · rename_i c2
        rw [if_neg c2] at h2; cases h2
    · rw [if_neg c1] at h2; cases h2
theorem sum_least {x : LT} {t s k : Fl .f32} (h : okL x = true) (ht : fin t = true) (hs : shB s = true) (hk : least k = true) (h2 : (forF x t s).2 = true) (h3 : fin (fadd (forF x t s).1 k) = true) : least (fadd (forF x t s).1 k) = true := by
  obtain ⟨a, b⟩ := for_nn h ht hs h2
  obtain ⟨c, d⟩ := least_val hk
  exact least_of h3 (NN.add a c b d h3)
theorem step_shP {x : LT} {s t k : Fl .f32} (h : okL x = true) (hs : shP s) (ht : fin t = true) (hk : least k = true) : shP (stepF x s t k) := by
  unfold stepF
  split
  · rename_i c
    obtain ⟨c1, c2, c3⟩ := c
    obtain ⟨a1, a2, a3, a4⟩ := after_in h ht (sum_least h ht hs.1 hk c1 c2)
    generalize afterF x t (fadd (forF x t s).1 k) = A at *
    split
    · exact ⟨by decide +kernel, fun e => absurd e (by decide +kernel)⟩
    · rename_i c4
      refine ⟨?_, a4⟩
      rw [fge_val a1 oneF.1, oneF.2] at c4
      unfold shB
      rw [fge_val a1 zero32.1, flt_val a1 oneF.1, zero32.2, oneF.2, decide_eq_true a2, decide_eq_true (show val A < 1 by
        have : ¬ (1 : Rat) ≤ val A := fun e => c4 (decide_eq_true e)
        grind)]
      rfl
  · exact hs
abbrev WA : Type := LT × Fl .f32 × Fl .f32 × Fl .f32 × Fl .f32 × Fl .f32 × Int
def warmN (x : LT) (u v w p q : Fl .f32) : Nat → Fl .f32 × Fl .f32
  | 0 => (u, Fl.of .f32 0)
  | i + 1 => (fadd (fsub (warmN x u v w p q i).1 (fmul (fmul w (fsub (warmN x u v w p q i).1 v)) q)) (fmul p (fsub (stepF x (warmN x u v w p q i).2 (warmN x u v w p q i).1 q) (warmN x u v w p q i).2)), stepF x (warmN x u v w p q i).2 (warmN x u v w p q i).1 q)
theorem warm_sh {x : LT} {u v w p q : Fl .f32} (h : okL x = true) (hq : least q = true) : ∀ i, (∀ j, j < i → fin (warmN x u v w p q j).1 = true) → shP (warmN x u v w p q i).2
  | 0, _ => ⟨by show shB (Fl.of .f32 0) = true; decide +kernel, fun _ => rfl⟩
  | i + 1, hb => step_shP h (warm_sh h hq i (fun j hj => hb j (by omega))) (hb i (by omega)) hq
def warmOk (x : LT) (u v w p q : Fl .f32) (m : Int) : Prop := okL x = true ∧ fin u = true ∧ fin v = true ∧ least w = true ∧ least p = true ∧ least q = true ∧ 1 ≤ m ∧ m ≤ 128 ∧ ∀ i : Nat, (i : Int) < m → fin (warmN x u v w p q i).1 = true
open Classical in
noncomputable def warmF (x : LT) (u v w p q : Fl .f32) (m : Int) : LS × LS × Bool := if warmOk x u v w p q m then (mapR (fun i => (warmN x u v w p q i).1) m.toNat, mapR (fun i => (warmN x u v w p q i).2) m.toNat, true) else ([], [], false)
noncomputable def warmG (x : WA) : Option (LS × LS × Bool) := some (warmF x.1 x.2.1 x.2.2.1 x.2.2.2.1 x.2.2.2.2.1 x.2.2.2.2.2.1 x.2.2.2.2.2.2)
noncomputable def warmS : FSpec := ⟨[lawD, F32, F32, F32, F32, F32, I64], [L32, L32, .bool], warmG⟩
theorem warm_no {x : LT} {u v w p q : Fl .f32} {m : Int} (h : ¬ warmOk x u v w p q m) : warmF x u v w p q m = ([], [], false) := if_neg h
theorem warm_yes {x : LT} {u v w p q : Fl .f32} {m : Int} (h : warmOk x u v w p q m) : warmF x u v w p q m = (mapR (fun i => (warmN x u v w p q i).1) m.toNat, mapR (fun i => (warmN x u v w p q i).2) m.toNat, true) := if_pos h
theorem warm_len (x : LT) (u v w p q : Fl .f32) (m : Int) : (warmF x u v w p q m).1.length ≤ 128 ∧ (warmF x u v w p q m).2.1.length ≤ 128 := by
  by_cases h : warmOk x u v w p q m
  · rw [warm_yes h, mapR_len, mapR_len]
    have := h.2.2.2.2.2.2.2.1
    omega
  · rw [warm_no h]; exact ⟨Nat.zero_le _, Nat.zero_le _⟩
def yesWG (_ : WA) : Option Bool := some true
def yesWS : FSpec := ⟨[lawD, F32, F32, F32, F32, F32, I64], [.bool], yesWG⟩
theorem held_at {k : Int} {n : Nat} (h0 : 0 ≤ k) (h1 : k < 2 ^ 60) (hn : n < 2 ^ 40) : heldG (marks k n, k) = some (k + (n : Int)) := by
  have : heldG (marks k n, k) = some (k + ((marks k n).length : Int)) := if_pos ⟨by show _ = marks k (marks k n).length; rw [marks_len], by show (marks k n).length < 2 ^ 40; rw [marks_len]; omega, h0, h1⟩
  rw [this, marks_len]
end Go.Proofs.Ytjggcekliaalgaa
