/- The program's SharesOf answers as the reference's does, at all arguments. No condition. -/
import Derived.Test.YtjggcekliaalgaaK9
import Derived.Test.YtjggcekliaalgaaK21
import Derived.Test.YtjggcekliaalgaaLG
namespace Go.Proofs.Ytjggcekliaalgaa
open Go.Ab
def meanF (l : LS) (i : Nat) : Fl .f32 := fmul (Fl.of .f32 1056964608) (fadd (l.getD (i - 1) dN) (l.getD i dN))
def meanG (x : LS × Int) : Option (Fl .f32) := if 1 ≤ x.2 ∧ x.2 < x.1.length ∧ x.1.length ≤ 128 then some (meanF x.1 x.2.toNat) else none
def meanS : FSpec := ⟨[L32, I64], [F32], meanG⟩
def mean2G (x : LS × LS × Int) : Option (Fl .f32 × Fl .f32) := if 1 ≤ x.2.2 ∧ x.2.2 < x.1.length ∧ x.2.1.length = x.1.length ∧ x.1.length ≤ 128 then some (meanF x.2.1 x.2.2.toNat, fsub (x.1.getD x.2.2.toNat dN) (x.1.getD (x.2.2.toNat - 1) dN)) else none
def mean2S : FSpec := ⟨[L32, L32, I64], [F32, F32], mean2G⟩
def meansOk (l : LS) : Prop := ∀ i, 1 ≤ i → i < l.length → fin (meanF l i) = true
open Classical in
noncomputable def meansB (l : LS) : Bool := decide (meansOk l)
open Classical in
theorem means_t {l : LS} (h : meansOk l) : meansB l = true := by unfold meansB; exact decide_eq_true h
open Classical in
theorem means_f {l : LS} (h : ¬ meansOk l) : meansB l = false := by unfold meansB; exact decide_eq_false h
open Classical in
theorem means_of {l : LS} (h : meansB l = true) : meansOk l := by unfold meansB at h; exact of_decide_eq_true h
noncomputable def meansG (x : LS) : Option Bool := if x.length ≤ 128 then some (meansB x) else none
noncomputable def meansS : FSpec := ⟨[L32], [.bool], meansG⟩
def loops_mean (_ _ _ : Nat) : Option LSpec := none
noncomputable def ss_mean : List (Nat × FSpec) := []
theorem ssOk_mean : FTolds Try.prog ss_mean := trivial
noncomputable def Γ_mean : Ctx := ctxOf Try.prog tys fs ss_mean loops_mean
noncomputable def d_mean (l : LS) (n : Int) : Option ((Fl .f32)) := bif inB (IntKind.i64.wrap (n - 1)) (List.length l) then (bif inB n (List.length l) then (some (fmul (Fl.of .f32 1056964608) (fadd (List.getD l (0 + (IntKind.i64.wrap (n - 1)).toNat) dN) (List.getD l (0 + n.toNat) dN)))) else (none)) else (none)
theorem t_mean (l : LS) (n : Int) : (fnT Γ_mean 10 95 [L32, I64] [F32] (l, n)).den = d_mean l n := by kernel_rfl
theorem p_mean (l : LS) (n : Int) (r : (Fl .f32)) (h : meanG (l, n) = some r) : d_mean l n = some r := by
  obtain ⟨⟨h1, h2, h3⟩, rfl⟩ := if_some (show (if 1 ≤ n ∧ n < (l.length : Int) ∧ l.length ≤ 128 then some (meanF l n.toNat) else none) = some r from h)
  obtain ⟨i, rfl⟩ : ∃ i : Nat, n = i := ⟨n.toNat, by omega⟩
  unfold d_mean meanF
  simp only [dec64 (show 1 ≤ i by omega) (show i < 2 ^ 62 by omega), inB_of (show i - 1 < l.length by omega), inB_of (show i < l.length by omega), cond_true, Int.toNat_natCast, Nat.zero_add]
theorem s_mean : FTold Try.prog 95 meanS := walkedF (fs := fs) (ss := ss_mean) (loop := loops_mean) tysOk mixed fnsOk ssOk_mean 10 95 [L32, I64] [F32] rfl _ fun (l, n) r h => (t_mean l n).trans (p_mean l n r h)
def loops_mean2 (_ _ _ : Nat) : Option LSpec := none
noncomputable def ss_mean2 : List (Nat × FSpec) := []
theorem ssOk_mean2 : FTolds Try.prog ss_mean2 := trivial
noncomputable def Γ_mean2 : Ctx := ctxOf Try.prog tys fs ss_mean2 loops_mean2
noncomputable def d_mean2 (k l : LS) (n : Int) : Option (((Fl .f32) × (Fl .f32))) := bif inB (IntKind.i64.wrap (n - 1)) (List.length l) then (bif inB n (List.length l) then (bif inB n (List.length k) then (bif inB (IntKind.i64.wrap (n - 1)) (List.length k) then (some ((fmul (Fl.of .f32 1056964608) (fadd (List.getD l (0 + (IntKind.i64.wrap (n - 1)).toNat) dN) (List.getD l (0 + n.toNat) dN)), fsub (List.getD k (0 + n.toNat) dN) (List.getD k (0 + (IntKind.i64.wrap (n - 1)).toNat) dN)))) else (none)) else (none)) else (none)) else (none)
theorem t_mean2 (k l : LS) (n : Int) : (fnT Γ_mean2 10 99 [L32, L32, I64] [F32, F32] (k, l, n)).den = d_mean2 k l n := by kernel_rfl
theorem p_mean2 (k l : LS) (n : Int) (r : ((Fl .f32) × (Fl .f32))) (h : mean2G (k, l, n) = some r) : d_mean2 k l n = some r := by
  obtain ⟨⟨h1, h2, h3, h4⟩, rfl⟩ := if_some (show (if 1 ≤ n ∧ n < (k.length : Int) ∧ l.length = k.length ∧ k.length ≤ 128 then some (meanF l n.toNat, fsub (k.getD n.toNat dN) (k.getD (n.toNat - 1) dN)) else none) = some r from h)
  obtain ⟨i, rfl⟩ : ∃ i : Nat, n = i := ⟨n.toNat, by omega⟩
  unfold d_mean2 meanF
  simp only [dec64 (show 1 ≤ i by omega) (show i < 2 ^ 62 by omega), inB_of (show i - 1 < l.length by omega), inB_of (show i < l.length by omega), inB_of (show i - 1 < k.length by omega), inB_of (show i < k.length by omega), cond_true, Int.toNat_natCast, Nat.zero_add]
theorem s_mean2 : FTold Try.prog 99 mean2S := walkedF (fs := fs) (ss := ss_mean2) (loop := loops_mean2) tysOk mixed fnsOk ssOk_mean2 10 99 [L32, L32, I64] [F32, F32] rfl _ fun (k, l, n) r h => (t_mean2 k l n).trans (p_mean2 k l n r h)
def L_means_1 : LSpec := ⟨[0, 3], ⟨Shs.at 15 [(0, (.slc 2)), (3, (.int IntKind.i64))], [(2, (.arr false (EK.flt FloatKind.f32)))]⟩, [⟨.ret, [2], ⟨Shs.at 15 [(2, .bool)], [(2, (.arr false (EK.flt FloatKind.f32)))]⟩⟩, ⟨.ext 0, [], ⟨Shs.at 15 [], [(2, (.arr false (EK.flt FloatKind.f32)))]⟩⟩], fun _ => bigN⟩
def loops_means (f k n : Nat) : Option LSpec := bif (Nat.beq f 93 && Nat.beq k 2 && Nat.beq n 1) then some L_means_1 else none
abbrev S_means_1 : Type := ((Nat × (Int × Unit)) × ((List (Fl .f32)) × Unit))
abbrev R_means_1 : Type := (((Bool × Unit) × ((List (Fl .f32)) × Unit)) ⊕ (Unit × ((List (Fl .f32)) × Unit)))
noncomputable def B_means_1 (y : S_means_1) : Option (S_means_1 ⊕ R_means_1) := bif decide (y.1.2.1 < (y.1.1 : Int)) then (Option.bind (meanG (sub y.2.1 0 y.1.1, y.1.2.1)) fun (r1 : (Fl .f32)) => (Option.bind (finG r1) fun (r2 : Bool) => (bif !r2 then (some (Sum.inr (Sum.inl (((false, ()), (y.2.1, ())))))) else (some (Sum.inl (((y.1.1, (IntKind.i64.wrap (y.1.2.1 + 1), ())), (y.2.1, ())))))))) else (some (Sum.inr (Sum.inr (((), (y.2.1, ()))))))
noncomputable def ss_means : List (Nat × FSpec) := [(95, meanS), (102, finS)]
theorem ssOk_means : FTolds Try.prog ss_means := ⟨s_mean, s_l01Finite, trivial⟩
noncomputable def Γ_means : Ctx := ctxOf Try.prog tys fs ss_means loops_means
noncomputable def d_means (l : LS) : Option (Bool) := Option.bind (iter B_means_1 bigN (((List.length l, (1, ())), (l, ())))) fun (r0 : (((Bool × Unit) × ((List (Fl .f32)) × Unit)) ⊕ (Unit × ((List (Fl .f32)) × Unit)))) => (match r0 with | .inl x3 => (some (x3.1.1)) | .inr x3 => (some (true)))
theorem t_means (l : LS) : (fnT Γ_means 10 93 [L32] [.bool] l).den = d_means l := by kernel_rfl
theorem p_means (l : LS) (r : Bool) (h : meansG l = some r) : d_means l = some r := by
  obtain ⟨h1, rfl⟩ := if_some (show (if l.length ≤ 128 then some (meansB l) else none) = some r from h)
  unfold d_means
  by_cases h0 : 1 ≤ l.length
  · have key := iter_find' (B := B_means_1) (fun i => ((l.length, ((i : Int), ())), (l, ()))) 1 l.length (fun i => if fin (meanF l i) = true then none else some (.inl ((false, ()), (l, ())))) (.inr ((), (l, ()))) h0 (by omega) (fun i hi0 hi => by
      have k1 : meanG (l, (i : Int)) = some (meanF l i) := if_pos ⟨by show (1 : Int) ≤ (i : Int); omega, by show (i : Int) < (l.length : Int); omega, h1⟩
      unfold B_means_1 finG
      simp only [ltT hi, inc64 hi (show l.length < 2 ^ 62 by omega), cond_true, sub_all, k1, Option.bind_some]
      by_cases e : fin (meanF l i) = true
      · rw [if_pos e, e]; rfl
      · rw [if_neg e, Bool.eq_false_iff.2 e]; rfl) (by
      unfold B_means_1
      simp only [ltF, cond_false])
    refine (congrArg (fun z => Option.bind z _) (show iter B_means_1 bigN _ = _ from key)).trans ?_
    rcases firstOf_const (fun i => fin (meanF l i)) (.inl ((false, ()), (l, ())) : R_means_1) (l.length - 1) 1 with ⟨q, hall⟩ | ⟨q, j, hj0, hj, hbad⟩
    · rw [q, means_t (fun i a b => hall i a (by omega))]; rfl
    · rw [q, means_f (fun k => by have := k j hj0 (by omega); rw [hbad] at this; cases this)]; rfl
  · have e : l = [] := List.eq_nil_of_length_eq_zero (by omega)
    subst e
    rw [means_t (fun i _ b => by cases b)]
    have key := iter_for (B := B_means_1) (fun _ => ((([] : LS).length, ((1 : Int), ())), (([] : LS), ()))) 0 0 (.inr ((), ([], ()))) (Nat.le_refl _) (by decide) (fun i _ hi => by omega) rfl
    exact congrArg (fun z => Option.bind z _) key
theorem s_means : FTold Try.prog 93 meansS := walkedF (fs := fs) (ss := ss_means) (loop := loops_means) tysOk mixed fnsOk ssOk_means 10 93 [L32] [.bool] rfl _ fun l r h => (t_means l).trans (p_means l r h)
def shN (x : LT) (T V : LS) : Nat → Fl .f32
  | 0 => Fl.of .f32 0
  | i + 1 => stepF x (shN x T V i) (meanF V (i + 1)) (fsub (T.getD (i + 1) dN) (T.getD i dN))
theorem shN_sh {x : LT} {T V : LS} (h : okL x = true) : ∀ i, (∀ j, j < i → fin (meanF V (j + 1)) = true ∧ least (fsub (T.getD (j + 1) dN) (T.getD j dN)) = true) → shP (shN x T V i)
  | 0, _ => ⟨by show shB (Fl.of .f32 0) = true; decide +kernel, fun _ => rfl⟩
  | i + 1, hb => step_shP h (shN_sh h i (fun j hj => hb j (by omega))) (hb i (by omega)).1 (hb i (by omega)).2
def ticksOk (T : LS) : Prop := ∀ i, i + 1 < T.length → least (fsub (T.getD (i + 1) dN) (T.getD i dN)) = true
def shsOk (x : LT) (T V : LS) : Prop := okL x = true ∧ 1 ≤ T.length ∧ T.length ≤ 128 ∧ V.length = T.length ∧ meansOk V ∧ ticksOk T
open Classical in
noncomputable def shsG (x : LT × LS × LS) : Option LS := if shsOk x.1 x.2.1 x.2.2 then some (mapR (shN x.1 x.2.1 x.2.2) x.2.1.length) else none
noncomputable def shsS : FSpec := ⟨[.ptr lawD, L32, L32], [L32], shsG⟩
open Classical in
theorem shs_some {x : LT} {T V r : LS} (h : shsG (x, T, V) = some r) : shsOk x T V ∧ mapR (shN x T V) T.length = r := if_some (show (if shsOk x T V then some (mapR (shN x T V) T.length) else none) = some r from h)
theorem shs_if {x : LT} {T V : LS} (h : shsOk x T V) : shsG (x, T, V) = some (mapR (shN x T V) T.length) := if_pos h
/- the times of samples -/
def quoOk : Bool := (List.range 128).all fun m => (List.range m).all fun i => fin (fdiv (fofInt .f32 (i : Int)) (fofInt .f32 (m : Int))) && fge (fdiv (fofInt .f32 (i : Int)) (fofInt .f32 (m : Int))) (Fl.of .f32 0) && fle (fdiv (fofInt .f32 (i : Int)) (fofInt .f32 (m : Int))) (fdiv (fofInt .f32 ((i + 1 : Nat) : Int)) (fofInt .f32 (m : Int))) && fin (fdiv (fofInt .f32 ((i + 1 : Nat) : Int)) (fofInt .f32 (m : Int))) && fle (fdiv (fofInt .f32 ((i + 1 : Nat) : Int)) (fofInt .f32 (m : Int))) (Fl.of .f32 1065353216)
theorem quo_ok : quoOk = true := by decide +kernel
theorem quo_at {m i : Nat} (hm : m < 128) (hi : i < m) : fin (fdiv (fofInt .f32 (i : Int)) (fofInt .f32 (m : Int))) = true ∧ 0 ≤ val (fdiv (fofInt .f32 (i : Int)) (fofInt .f32 (m : Int))) ∧ val (fdiv (fofInt .f32 (i : Int)) (fofInt .f32 (m : Int))) ≤ val (fdiv (fofInt .f32 ((i + 1 : Nat) : Int)) (fofInt .f32 (m : Int))) ∧ fin (fdiv (fofInt .f32 ((i + 1 : Nat) : Int)) (fofInt .f32 (m : Int))) = true ∧ val (fdiv (fofInt .f32 ((i + 1 : Nat) : Int)) (fofInt .f32 (m : Int))) ≤ 1 := by
  have h := List.all_eq_true.1 (List.all_eq_true.1 quo_ok m (List.mem_range.2 hm)) i (List.mem_range.2 hi)
  simp only [Bool.and_eq_true] at h
  obtain ⟨⟨⟨⟨h1, h2⟩, h3⟩, h4⟩, h5⟩ := h
  rw [fge_val h1 zero32.1, zero32.2] at h2
  rw [fle_val h1 h4] at h3
  rw [fle_val h4 oneF.1, oneF.2] at h5
  exact ⟨h1, of_decide_eq_true h2, of_decide_eq_true h3, h4, of_decide_eq_true h5⟩
theorem vp_order {a b : LS} (h : vp a b = true) : ∀ i, i < a.length → 0 ≤ val (a.getD 0 dN) ∧ val (a.getD 0 dN) ≤ val (a.getD i dN) := by
  obtain ⟨v1, v2, v3, v4, v5⟩ := vp_of h
  have f0 := (v5 0 (by omega)).1
  rw [fge_val f0 zero32.1, zero32.2] at v4
  have z := of_decide_eq_true v4
  intro i
  induction i with
  | zero => intro _; exact ⟨z, Rat.le_refl⟩
  | succ i ih =>
    intro hi
    refine ⟨z, Rat.le_trans (ih (by omega)).2 ?_⟩
    have g := (v5 (i + 1) hi).2.2 (by omega)
    rw [Nat.add_sub_cancel, fgt_val (v5 (i + 1) hi).1 (v5 i (by omega)).1] at g
    exact Rat.le_of_lt (of_decide_eq_true g)
theorem sam_ticks {a b : LS} {n : Int} (h : vp a b = true) (h2 : 2 ≤ n) (h3 : n ≤ 128) (ho : smOk a b n = true) {i : Nat} (hi : i + 1 < n.toNat) : least (fsub (smT a n (i + 1)) (smT a n i)) = true := by
  obtain ⟨j, rfl⟩ : ∃ j : Nat, n = j := ⟨n.toNat, by omega⟩
  rw [Int.toNat_natCast] at hi
  obtain ⟨v1, v2, v3, v4, v5⟩ := vp_of h
  have hA := (v5 0 (by omega)).1
  have hL := (v5 (a.length - 1) (by omega)).1
  obtain ⟨z0, z1⟩ := vp_order h (a.length - 1) (by omega)
  have D := sub_between (x := a.getD (a.length - 1) dN) (y := a.getD 0 dN) (L := Fl.of .f32 0) (U := a.getD (a.length - 1) dN) hL hA zero32.1 hL (by rw [zero32.2]; grind) (by grind)
  rw [zero32.2] at D
  unfold smOk at ho
  rw [Int.toNat_natCast, Bool.and_eq_true] at ho
  have t0 := allf_get ho.1 (i := i) (by rw [mapR_len]; omega)
  have t1 := allf_get ho.1 (i := i + 1) (by rw [mapR_len]; omega)
  rw [mapR_get _ _ (by omega)] at t0 t1
  obtain ⟨q1, q2, q3, q4, q5⟩ := quo_at (m := j - 1) (i := i) (by omega) (by omega)
  unfold smT at t0 t1 ⊢
  rw [dec64 (show 1 ≤ j by omega) (show j < 2 ^ 62 by omega)] at t0 t1 ⊢
  generalize fdiv (fofInt .f32 (i : Int)) (fofInt .f32 ((j - 1 : Nat) : Int)) = Q at *
  generalize fdiv (fofInt .f32 ((i + 1 : Nat) : Int)) (fofInt .f32 ((j - 1 : Nat) : Int)) = Q' at *
  generalize fsub (a.getD (a.length - 1) dN) (a.getD 0 dN) = E at *
  generalize a.getD 0 dN = A at *
  have n1 : 0 ≤ val E * val Q := Rat.mul_nonneg D.2.1 q2
  have n2 : 0 ≤ val E * (val Q' - val Q) := Rat.mul_nonneg D.2.1 (by grind)
  have n3 : 0 ≤ val E * (1 - val Q') := Rat.mul_nonneg D.2.1 (by grind)
  have M' := mul_between (x := E) (y := Q') (L := Fl.of .f32 0) (U := E) D.1 q4 zero32.1 D.1 (by rw [zero32.2]; grind) (by grind)
  rw [zero32.2] at M'
  have M := mul_mono (x := E) (x' := E) (y := Q) (y' := Q') D.1 D.1 q1 q4 n1 (by grind) M'.1
  have M0 : 0 ≤ val (fmul E Q) := NN.mul (fun _ => D.2.1) (fun _ => q2) M.1
  have S := add_mono (x := A) (x' := A) (y := fmul E Q) (y' := fmul E Q') hA hA M.1 M'.1 (by grind) (by grind) t1
  have S0 : 0 ≤ val (fadd A (fmul E Q)) := NN.add hA M.1 z0 M0 t0
  have R := sub_between (x := fadd A (fmul E Q')) (y := fadd A (fmul E Q)) (L := Fl.of .f32 0) (U := fadd A (fmul E Q')) t1 t0 zero32.1 t1 (by rw [zero32.2]; grind) (by grind)
  rw [zero32.2] at R
  exact least_of R.1 R.2.1
def shoOk (x : LT) (a b : LS) (n : Int) : Prop := okL x = true ∧ vp a b = true ∧ (2 ≤ n ∧ n ≤ 128) ∧ smOk a b n = true ∧ meansB (mapR (smV a b n) n.toNat) = true
open Classical in
noncomputable def shoF (x : LT) (a b : LS) (n : Int) : LS × Bool := if shoOk x a b n then (mapR (shN x (mapR (smT a n) n.toNat) (mapR (smV a b n) n.toNat)) n.toNat, true) else ([], false)
noncomputable def shoG (x : LT × Pr × Int) : Option (LS × Bool) := if x.2.1.2.length < 2 ^ 62 then some (shoF x.1 x.2.1.1 x.2.1.2 x.2.2) else none
noncomputable def shoS : FSpec := ⟨[lawD, PD, I64], [L32, .bool], shoG⟩
theorem sho_no {x : LT} {a b : LS} {n : Int} (h : ¬ shoOk x a b n) : shoF x a b n = ([], false) := if_neg h
theorem sho_yes {x : LT} {a b : LS} {n : Int} (h : shoOk x a b n) : shoF x a b n = (mapR (shN x (mapR (smT a n) n.toNat) (mapR (smV a b n) n.toNat)) n.toNat, true) := if_pos h
theorem sho_shs {x : LT} {a b : LS} {n : Int} (h : shoOk x a b n) : shsOk x (mapR (smT a n) n.toNat) (mapR (smV a b n) n.toNat) := by
  obtain ⟨h1, h2, ⟨h3, h4⟩, h5, h6⟩ := h
  refine ⟨h1, by rw [mapR_len]; omega, by rw [mapR_len]; omega, by rw [mapR_len, mapR_len], means_of h6, fun i hi => ?_⟩
  rw [mapR_len] at hi
  rw [mapR_get _ _ hi, mapR_get _ _ (show i < n.toNat by omega)]
  exact sam_ticks h2 h3 h4 h5 hi
open Classical in
noncomputable def step2G (x : LT × Fl .f32 × Fl .f32 × Fl .f32) : Option (Fl .f32 × Bool) := if okL x.1 = true ∧ shP x.2.1 ∧ least x.2.2.2 = true then some (if fin x.2.2.1 = true then (stepF x.1 x.2.1 x.2.2.1 x.2.2.2, true) else (Fl.of .f32 0, false)) else none
noncomputable def step2S : FSpec := ⟨[lawD, F32, F32, F32], [F32, .bool], step2G⟩
open Classical in
theorem step2_some {x : LT} {s t k : Fl .f32} {r : Fl .f32 × Bool} (h : step2G (x, s, t, k) = some r) : (okL x = true ∧ shP s ∧ least k = true) ∧ (if fin t = true then (stepF x s t k, true) else (Fl.of .f32 0, false)) = r :=
  if_some (show (if okL x = true ∧ shP s ∧ least k = true then some (if fin t = true then (stepF x s t k, true) else (Fl.of .f32 0, false)) else none) = some r from h)
theorem step2_if {x : LT} {s t k : Fl .f32} (h : okL x = true ∧ shP s ∧ least k = true) : step2G (x, s, t, k) = some (if fin t = true then (stepF x s t k, true) else (Fl.of .f32 0, false)) := if_pos h
theorem sho_len (x : LT) (a b : LS) (n : Int) : (shoF x a b n).1.length ≤ 128 := by
  by_cases h : shoOk x a b n
  · rw [sho_yes h, mapR_len]
    have := h.2.2.1.2
    omega
  · rw [sho_no h]; exact Nat.zero_le _
noncomputable def yesHG (x : LT × Pr × Int) : Option Bool := if x.2.1.1.length ≤ maxLen ∧ x.2.1.2.length ≤ maxLen then some true else none
noncomputable def yesHS : FSpec := ⟨[lawD, PD, I64], [.bool], yesHG⟩
end Go.Proofs.Ytjggcekliaalgaa
