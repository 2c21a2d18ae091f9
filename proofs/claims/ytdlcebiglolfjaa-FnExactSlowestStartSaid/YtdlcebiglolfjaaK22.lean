/- The program's SharesOf answers as the reference's does, at all arguments. No condition. -/
import Derived.Test.YtdlcebiglolfjaaK9
import Derived.Test.YtdlcebiglolfjaaK21
import Derived.Test.YtdlcebiglolfjaaLG
namespace Go.Proofs.Ytdlcebiglolfjaa
open Go.Ab
def meanF (l : LS) (i : Nat) : Fl .f32 := fmul (Fl.of .f32 1056964608) (fadd (l.getD (i - 1) dN) (l.getD i dN))
def meanG (x : LS × Int) : Option (Fl .f32) := if 1 ≤ x.2 ∧ x.2 < x.1.length ∧ x.1.length ≤ 128 then some (meanF x.1 x.2.toNat) else none
def meanS : FSpec := ⟨[L32, I64], [F32], meanG⟩
def mean2G (x : LS × LS × Int) : Option (Fl .f32 × Fl .f32) := if 1 ≤ x.2.2 ∧ x.2.2 < x.1.length ∧ x.2.1.length = x.1.length ∧ x.1.length ≤ 128 then some (meanF x.2.1 x.2.2.toNat, fsub (x.1.getD x.2.2.toNat dN) (x.1.getD (x.2.2.toNat - 1) dN)) else none
def mean2S : FSpec := ⟨[L32, L32, I64], [F32, F32], mean2G⟩
def meansOk (l : LS) : Prop := ∀ i, 1 ≤ i → i < l.length → fin (meanF l i) = true
open Classical in
noncomputable def meansB (l : LS) : Bool := decide (meansOk l)
open Classical in
theorem means_t {l : LS} (h : meansOk l) : meansB l = true := by unfold meansB; exact decide_eq_true h
open Classical in
theorem means_f {l : LS} (h : ¬ meansOk l) : meansB l = false := by unfold meansB; exact decide_eq_false h
open Classical in
theorem means_of {l : LS} (h : meansB l = true) : meansOk l := by unfold meansB at h; exact of_decide_eq_true h
noncomputable def meansG (x : LS) : Option Bool := if x.length ≤ 128 then some (meansB x) else none
noncomputable def meansS : FSpec := ⟨[L32], [.bool], meansG⟩
def loops_mean (_ _ _ : Nat) : Option LSpec := none
noncomputable def ss_mean : List (Nat × FSpec) := []
theorem ssOk_mean : FTolds Try.prog ss_mean := trivial
noncomputable def Γ_mean : Ctx := ctxOf Try.prog tys fs ss_mean loops_mean
noncomputable def d_mean (l : LS) (n : Int) : Option ((Fl .f32)) := bif inB (IntKind.i64.wrap (n - 1)) (List.length l) then (bif inB n (List.length l) then (some (fmul (Fl.of .f32 1056964608) (fadd (List.getD l (0 + (IntKind.i64.wrap (n - 1)).toNat) dN) (List.getD l (0 + n.toNat) dN)))) else (none)) else (none)
theorem t_mean (l : LS) (n : Int) : (fnT Γ_mean 10 95 [L32, I64] [F32] (l, n)).den = d_mean l n := by kernel_rfl
theorem p_mean (l : LS) (n : Int) (r : (Fl .f32)) (h : meanG (l, n) = some r) : d_mean l n = some r := by
  obtain ⟨⟨h1, h2, h3⟩, rfl⟩ := if_some (show (if 1 ≤ n ∧ n < (l.length : Int) ∧ l.length ≤ 128 then some (meanF l n.toNat) else none) = some r from h)
  obtain ⟨i, rfl⟩ : ∃ i : Nat, n = i := ⟨n.toNat, by omega⟩
  unfold d_mean meanF
  simp only [dec64 (show 1 ≤ i by omega) (show i < 2 ^ 62 by omega), inB_of (show i - 1 < l.length by omega), inB_of (show i < l.length by omega), cond_true, Int.toNat_natCast, Nat.zero_add]
theorem s_mean : FTold Try.prog 95 meanS := walkedF (fs := fs) (ss := ss_mean) (loop := loops_mean) tysOk mixed fnsOk ssOk_mean 10 95 [L32, I64] [F32] rfl _ fun (l, n) r h => (t_mean l n).trans (p_mean l n r h)
def loops_mean2 (_ _ _ : Nat) : Option LSpec := none
noncomputable def ss_mean2 : List (Nat × FSpec) := []
theorem ssOk_mean2 : FTolds Try.prog ss_mean2 := trivial
noncomputable def Γ_mean2 : Ctx := ctxOf Try.prog tys fs ss_mean2 loops_mean2
noncomputable def d_mean2 (k l : LS) (n : Int) : Option (((Fl .f32) × (Fl .f32))) := bif inB (IntKind.i64.wrap (n - 1)) (List.length l) then (bif inB n (List.length l) then (bif inB n (List.length k) then (bif inB (IntKind.i64.wrap (n - 1)) (List.length k) then (some ((fmul (Fl.of .f32 1056964608) (fadd (List.getD l (0 + (IntKind.i64.wrap (n - 1)).toNat) dN) (List.getD l (0 + n.toNat) dN)), fsub (List.getD k (0 + n.toNat) dN) (List.getD k (0 + (IntKind.i64.wrap (n - 1)).toNat) dN)))) else (none)) else (none)) else (none)) else (none)
theorem t_mean2 (k l : LS) (n : Int) : (fnT Γ_mean2 10 98 [L32, L32, I64] [F32, F32] (k, l, n)).den = d_mean2 k l n := by kernel_rfl
theorem p_mean2 (k l : LS) (n : Int) (r : ((Fl .f32) × (Fl .f32))) (h : mean2G (k, l, n) = some r) : d_mean2 k l n = some r := by
  obtain ⟨⟨h1, h2, h3, h4⟩, rfl⟩ := if_some (show (if 1 ≤ n ∧ n < (k.length : Int) ∧ l.length = k.length ∧ k.length ≤ 128 then some (meanF l n.toNat, fsub (k.getD n.toNat dN) (k.getD (n.toNat - 1) dN)) else none) = some r from h)
  obtain ⟨i, rfl⟩ : ∃ i : Nat, n = i := ⟨n.toNat, by omega⟩
  unfold d_mean2 meanF
  simp only [dec64 (show 1 ≤ i by omega) (show i < 2 ^ 62 by omega), inB_of (show i - 1 < l.length by omega), inB_of (show i < l.length by omega), inB_of (show i - 1 < k.length by omega), inB_of (show i < k.length by omega), cond_true, Int.toNat_natCast, Nat.zero_add]
theorem s_mean2 : FTold Try.prog 98 mean2S := walkedF (fs := fs) (ss := ss_mean2) (loop := loops_mean2) tysOk mixed fnsOk ssOk_mean2 10 98 [L32, L32, I64] [F32, F32] rfl _ fun (k, l, n) r h => (t_mean2 k l n).trans (p_mean2 k l n r h)
def L_means_1 : LSpec := ⟨[0, 3], ⟨Shs.at 15 [(0, (.slc 2)), (3, (.int IntKind.i64))], [(2, (.arr false (EK.flt FloatKind.f32)))]⟩, [⟨.ret, [2], ⟨Shs.at 15 [(2, .bool)], [(2, (.arr false (EK.flt FloatKind.f32)))]⟩⟩, ⟨.ext 0, [], ⟨Shs.at 15 [], [(2, (.arr false (EK.flt FloatKind.f32)))]⟩⟩], fun _ => bigN⟩
def loops_means (f k n : Nat) : Option LSpec := bif (Nat.beq f 89 && Nat.beq k 2 && Nat.beq n 1) then some L_means_1 else none
abbrev S_means_1 : Type := ((Nat × (Int × Unit)) × ((List (Fl .f32)) × Unit))
abbrev R_means_1 : Type := (((Bool × Unit) × ((List (Fl .f32)) × Unit)) ⊕ (Unit × ((List (Fl .f32)) × Unit)))
noncomputable def B_means_1 (y : S_means_1) : Option (S_means_1 ⊕ R_means_1) := bif decide (y.1.2.1 < (y.1.1 : Int)) then (Option.bind (meanG (sub y.2.1 0 y.1.1, y.1.2.1)) fun (r1 : (Fl .f32)) => (Option.bind (finG r1) fun (r2 : Bool) => (bif !r2 then (some (Sum.inr (Sum.inl (((false, ()), (y.2.1, ())))))) else (some (Sum.inl (((y.1.1, (IntKind.i64.wrap (y.1.2.1 + 1), ())), (y.2.1, ())))))))) else (some (Sum.inr (Sum.inr (((), (y.2.1, ()))))))
noncomputable def ss_means : List (Nat × FSpec) := [(95, meanS), (81, finS)]
theorem ssOk_means : FTolds Try.prog ss_means := ⟨s_mean, s_l01Finite, trivial⟩
noncomputable def Γ_means : Ctx := ctxOf Try.prog tys fs ss_means loops_means
noncomputable def d_means (l : LS) : Option (Bool) := Option.bind (iter B_means_1 bigN (((List.length l, (1, ())), (l, ())))) fun (r0 : (((Bool × Unit) × ((List (Fl .f32)) × Unit)) ⊕ (Unit × ((List (Fl .f32)) × Unit)))) => (match r0 with | .inl x3 => (some (x3.1.1)) | .inr x3 => (some (true)))
theorem t_means (l : LS) : (fnT Γ_means 10 89 [L32] [.bool] l).den = d_means l := by kernel_rfl
theorem p_means (l : LS) (r : Bool) (h : meansG l = some r) : d_means l = some r := by
  obtain ⟨h1, rfl⟩ := if_some (show (if l.length ≤ 128 then some (meansB l) else none) = some r from h)
  unfold d_means
  by_cases h0 : 1 ≤ l.length
  · have key := iter_find' (B := B_means_1) (fun i => ((l.length, ((i : Int), ())), (l, ()))) 1 l.length (fun i => if fin (meanF l i) = true then none else some (.inl ((false, ()), (l, ())))) (.inr ((), (l, ()))) h0 (by omega) (fun i hi0 hi => by
      have k1 : meanG (l, (i : Int)) = some (meanF l i) := if_pos ⟨by show (1 : Int) ≤ (i : Int); omega, by show (i : Int) < (l.length : Int); omega, h1⟩
      unfold B_means_1 finG
      simp only [ltT hi, inc64 hi (show l.length < 2 ^ 62 by omega), cond_true, sub_all, k1, Option.bind_some]
      by_cases e : fin (meanF l i) = true
      · rw [if_pos e, e]; rfl
      · rw [if_neg e, Bool.eq_false_iff.2 e]; rfl) (by
      unfold B_means_1
      simp only [ltF, cond_false])
    refine (congrArg (fun z => Option.bind z _) (show iter B_means_1 bigN _ = _ from key)).trans ?_
    rcases firstOf_const (fun i => fin (meanF l i)) (.inl ((false, ()), (l, ())) : R_means_1) (l.length - 1) 1 with ⟨q, hall⟩ | ⟨q, j, hj0, hj, hbad⟩
    · rw [q, means_t (fun i a b => hall i a (by omega))]; rfl
    · rw [q, means_f (fun k => by have := k j hj0 (by omega); rw [hbad] at this; cases this)]; rfl
  · have e : l = [] := List.eq_nil_of_length_eq_zero (by omega)
    subst e
    rw [means_t (fun i _ b => by cases b)]
    have key := iter_for (B := B_means_1) (fun _ => ((([] : LS).length, ((1 : Int), ())), (([] : LS), ()))) 0 0 (.inr ((), ([], ()))) (Nat.le_refl _) (by decide) (fun i _ hi => by omega) rfl
    exact congrArg (fun z => Option.bind z _) key
theorem s_means : FTold Try.prog 89 meansS := walkedF (fs := fs) (ss := ss_means) (loop := loops_means) tysOk mixed fnsOk ssOk_means 10 89 [L32] [.bool] rfl _ fun l r h => (t_means l).trans (p_means l r h)
def shN (x : LT) (T V : LS) : Nat → Fl .f32
  | 0 => Fl.of .f32 0
  | i + 1 => stepF x (shN x T V i) (meanF V (i + 1)) (fsub (T.getD (i + 1) dN) (T.getD i dN))
theorem shN_sh {x : LT} {T V : LS} (h : okL x = true) : ∀ i, (∀ j, j < i → fin (meanF V (j + 1)) = true ∧ least (fsub (T.getD (j + 1) dN) (T.getD j dN)) = true) → shP (shN x T V i)
  | 0, _ => ⟨by show shB (Fl.of .f32 0) = true; decide +kernel, fun _ => rfl⟩
  | i + 1, hb => step_shP h (shN_sh h i (fun j hj => hb j (by omega))) (hb i (by omega)).1 (hb i (by omega)).2
def ticksOk (T : LS) : Prop := ∀ i, i + 1 < T.length → least (fsub (T.getD (i + 1) dN) (T.getD i dN)) = true
def shsOk (x : LT) (T V : LS) : Prop := okL x = true ∧ 1 ≤ T.length ∧ T.length ≤ 128 ∧ V.length = T.length ∧ meansOk V ∧ ticksOk T
open Classical in
noncomputable def shsG (x : LT × LS × LS) : Option LS := if shsOk x.1 x.2.1 x.2.2 then some (mapR (shN x.1 x.2.1 x.2.2) x.2.1.length) else none
noncomputable def shsS : FSpec := ⟨[.ptr lawD, L32, L32], [L32], shsG⟩
open Classical in
theorem shs_some {x : LT} {T V r : LS} (h : shsG (x, T, V) = some r) : shsOk x T V ∧ mapR (shN x T V) T.length = r := if_some (show (if shsOk x T V then some (mapR (shN x T V) T.length) else none) = some r from h)
theorem shs_if {x : LT} {T V : LS} (h : shsOk x T V) : shsG (x, T, V) = some (mapR (shN x T V) T.length) := if_pos h
def L_shs_1 : LSpec := ⟨[0, 1, 2, 7, 8, 9], ⟨Shs.at 38 [(0, (.ptr 2 0 0)), (1, (.slc 3)), (2, (.slc 4)), (7, (.slc 2146435328)), (8, (.flt FloatKind.f32)), (9, (.int IntKind.i64))], [(2, (.vals false (.cons (.flt FloatKind.f32) (.cons (.flt FloatKind.f32) (.cons (.flt FloatKind.f32) (.cons (.int IntKind.i64) .nil)))))), (3, (.arr false (EK.flt FloatKind.f32))), (4, (.arr false (EK.flt FloatKind.f32))), (2146435328, (.arr true (EK.flt FloatKind.f32)))]⟩, [⟨.ext 0, [7], ⟨Shs.at 38 [(7, (.slc 2146435328))], [(2, (.vals false (.cons (.flt FloatKind.f32) (.cons (.flt FloatKind.f32) (.cons (.flt FloatKind.f32) (.cons (.int IntKind.i64) .nil)))))), (3, (.arr false (EK.flt FloatKind.f32))), (4, (.arr false (EK.flt FloatKind.f32))), (2146435328, (.arr true (EK.flt FloatKind.f32)))]⟩⟩], fun _ => bigN⟩
def loops_shs (f k n : Nat) : Option LSpec := bif (Nat.beq f 90 && Nat.beq k 4 && Nat.beq n 1) then some L_shs_1 else none
abbrev S_shs_1 : Type := ((Nat × (Nat × (Nat × ((Fl .f32) × (Int × Unit))))) × (((Fl .f32) × ((Fl .f32) × ((Fl .f32) × (Int × Unit)))) × ((List (Fl .f32)) × ((List (Fl .f32)) × ((List (Fl .f32)) × Unit)))))
abbrev R_shs_1 : Type := ((Nat × Unit) × (((Fl .f32) × ((Fl .f32) × ((Fl .f32) × (Int × Unit)))) × ((List (Fl .f32)) × ((List (Fl .f32)) × ((List (Fl .f32)) × Unit)))))
noncomputable def B_shs_1 (y : S_shs_1) : Option (S_shs_1 ⊕ R_shs_1) := bif decide (y.1.2.2.2.2.1 < (y.1.1 : Int)) then (Option.bind (meanG (sub y.2.2.2.1 0 y.1.2.1, y.1.2.2.2.2.1)) fun (r1 : (Fl .f32)) => (bif inB y.1.2.2.2.2.1 y.1.1 then (bif inB (IntKind.i64.wrap (y.1.2.2.2.2.1 - 1)) y.1.1 then (Option.bind (stepPG ((y.2.1.1, y.2.1.2.1, y.2.1.2.2.1, y.2.1.2.2.2.1), y.1.2.2.2.1, r1, fsub (List.getD y.2.2.1 (0 + Int.toNat y.1.2.2.2.2.1) dN) (List.getD y.2.2.1 (0 + (IntKind.i64.wrap (y.1.2.2.2.2.1 - 1)).toNat) dN))) fun (r2 : (Fl .f32)) => (bif decide (y.1.2.2.1 + 1 ≤ maxA) then (some (Sum.inl (((y.1.1, (y.1.2.1, ((sub y.2.2.2.2.1 0 y.1.2.2.1 ++ [r2]).length, (r2, (IntKind.i64.wrap (y.1.2.2.2.2.1 + 1), ()))))), ((y.2.1.1, (y.2.1.2.1, (y.2.1.2.2.1, (y.2.1.2.2.2.1, ())))), (y.2.2.1, (y.2.2.2.1, (sub y.2.2.2.2.1 0 y.1.2.2.1 ++ [r2], ())))))))) else (none))) else (none)) else (none))) else (some (Sum.inr (((y.1.2.2.1, ()), ((y.2.1.1, (y.2.1.2.1, (y.2.1.2.2.1, (y.2.1.2.2.2.1, ())))), (y.2.2.1, (y.2.2.2.1, (y.2.2.2.2.1, ()))))))))
noncomputable def ss_shs : List (Nat × FSpec) := [(83, stepPS), (95, meanS)]
theorem ssOk_shs : FTolds Try.prog ss_shs := ⟨s_stepP, s_mean, trivial⟩
noncomputable def Γ_shs : Ctx := ctxOf Try.prog tys fs ss_shs loops_shs
noncomputable def d_shs (a b c : Fl .f32) (n : Int) (k l : LS) : Option ((List (Fl .f32))) := Option.bind (iter B_shs_1 bigN (((List.length k, (List.length l, (1, (Fl.of .f32 0, (1, ()))))), ((a, (b, (c, (n, ())))), (k, (l, (Fl.of .f32 0 :: [], ()))))))) fun (r0 : ((Nat × Unit) × (((Fl .f32) × ((Fl .f32) × ((Fl .f32) × (Int × Unit)))) × ((List (Fl .f32)) × ((List (Fl .f32)) × ((List (Fl .f32)) × Unit)))))) => (some (sub r0.2.2.2.2.1 0 r0.1.1))
theorem t_shs (a b c : Fl .f32) (n : Int) (k l : LS) : (fnT Γ_shs 10 90 [.ptr lawD, L32, L32] [L32] ((a, b, c, n), k, l)).den = d_shs a b c n k l := by kernel_rfl
theorem p_shs (a b c : Fl .f32) (n : Int) (k l : LS) (r : (List (Fl .f32))) (h : shsG ((a, b, c, n), k, l) = some r) : d_shs a b c n k l = some r := by
  obtain ⟨⟨h1, h2, h3, h4, h5, h6⟩, rfl⟩ := shs_some h
  unfold d_shs
  have key := iter_for (B := B_shs_1) (fun i => ((k.length, (l.length, (i, (shN (a, b, c, n) k l (i - 1), ((i : Int), ()))))), ((a, (b, (c, (n, ())))), (k, (l, (mapR (shN (a, b, c, n) k l) i, ())))))) 1 k.length ((k.length, ()), ((a, (b, (c, (n, ())))), (k, (l, (mapR (shN (a, b, c, n) k l) k.length, ()))))) h2 (by omega) (fun i hi0 hi => by
    obtain ⟨i, rfl⟩ : ∃ i', i = i' + 1 := ⟨i - 1, by omega⟩
    have k1 : meanG (l, ((i + 1 : Nat) : Int)) = some (meanF l (i + 1)) := if_pos ⟨by show (1 : Int) ≤ ((i + 1 : Nat) : Int); omega, by show ((i + 1 : Nat) : Int) < (l.length : Int); omega, by show l.length ≤ 128; omega⟩
    have hs := shN_sh (T := k) (V := l) h1 i (fun j hj => ⟨h5 (j + 1) (by omega) (by omega), h6 j (by omega)⟩)
    have k2 : stepPG ((a, b, c, n), shN (a, b, c, n) k l i, meanF l (i + 1), fsub (k.getD (i + 1) dN) (k.getD i dN)) = some (shN (a, b, c, n) k l (i + 1)) := step_if ⟨h1, hs, h5 (i + 1) (by omega) (by omega), h6 i (by omega)⟩
    unfold B_shs_1
    simp only [ltT hi, inc64 hi (show k.length < 2 ^ 62 by omega), cond_true, sub_all, k1, Option.bind_some, inB_of hi, dec64 (show 1 ≤ i + 1 by omega) (show i + 1 < 2 ^ 62 by omega), Nat.add_sub_cancel, inB_of (show i < k.length by omega), Int.toNat_natCast, Nat.zero_add, k2, maxA_one (show i + 1 < 2 ^ 30 by omega), sub_mapR9, ← mapR_succ (shN (a, b, c, n) k l) (i + 1), mapR_len]) (by
    unfold B_shs_1
    simp only [ltF, cond_false])
  refine (congrArg (fun z => Option.bind z _) (show iter B_shs_1 bigN _ = _ from key)).trans ?_
  simp only [Option.bind_some, sub_mapR9]
theorem s_shs : FTold Try.prog 90 shsS := walkedF (fs := fs) (ss := ss_shs) (loop := loops_shs) tysOk mixed fnsOk ssOk_shs 10 90 [.ptr lawD, L32, L32] [L32] rfl _ fun ((a, b, c, n), k, l) r h => (t_shs a b c n k l).trans (p_shs a b c n k l r h)
/- the times of samples -/
def quoOk : Bool := (List.range 128).all fun m => (List.range m).all fun i => fin (fdiv (fofInt .f32 (i : Int)) (fofInt .f32 (m : Int))) && fge (fdiv (fofInt .f32 (i : Int)) (fofInt .f32 (m : Int))) (Fl.of .f32 0) && fle (fdiv (fofInt .f32 (i : Int)) (fofInt .f32 (m : Int))) (fdiv (fofInt .f32 ((i + 1 : Nat) : Int)) (fofInt .f32 (m : Int))) && fin (fdiv (fofInt .f32 ((i + 1 : Nat) : Int)) (fofInt .f32 (m : Int))) && fle (fdiv (fofInt .f32 ((i + 1 : Nat) : Int)) (fofInt .f32 (m : Int))) (Fl.of .f32 1065353216)
theorem quo_ok : quoOk = true := by decide +kernel
theorem quo_at {m i : Nat} (hm : m < 128) (hi : i < m) : fin (fdiv (fofInt .f32 (i : Int)) (fofInt .f32 (m : Int))) = true ∧ 0 ≤ val (fdiv (fofInt .f32 (i : Int)) (fofInt .f32 (m : Int))) ∧ val (fdiv (fofInt .f32 (i : Int)) (fofInt .f32 (m : Int))) ≤ val (fdiv (fofInt .f32 ((i + 1 : Nat) : Int)) (fofInt .f32 (m : Int))) ∧ fin (fdiv (fofInt .f32 ((i + 1 : Nat) : Int)) (fofInt .f32 (m : Int))) = true ∧ val (fdiv (fofInt .f32 ((i + 1 : Nat) : Int)) (fofInt .f32 (m : Int))) ≤ 1 := by
  have h := List.all_eq_true.1 (List.all_eq_true.1 quo_ok m (List.mem_range.2 hm)) i (List.mem_range.2 hi)
  simp only [Bool.and_eq_true] at h
  obtain ⟨⟨⟨⟨h1, h2⟩, h3⟩, h4⟩, h5⟩ := h
  rw [fge_val h1 zero32.1, zero32.2] at h2
  rw [fle_val h1 h4] at h3
  rw [fle_val h4 oneF.1, oneF.2] at h5
  exact ⟨h1, of_decide_eq_true h2, of_decide_eq_true h3, h4, of_decide_eq_true h5⟩
theorem vp_order {a b : LS} (h : vp a b = true) : ∀ i, i < a.length → 0 ≤ val (a.getD 0 dN) ∧ val (a.getD 0 dN) ≤ val (a.getD i dN) := by
  obtain ⟨v1, v2, v3, v4, v5⟩ := vp_of h
  have f0 := (v5 0 (by omega)).1
  rw [fge_val f0 zero32.1, zero32.2] at v4
  have z := of_decide_eq_true v4
  intro i
  induction i with
  | zero => intro _; exact ⟨z, Rat.le_refl⟩
  | succ i ih =>
    intro hi
    refine ⟨z, Rat.le_trans (ih (by omega)).2 ?_⟩
    have g := (v5 (i + 1) hi).2.2 (by omega)
    rw [Nat.add_sub_cancel, fgt_val (v5 (i + 1) hi).1 (v5 i (by omega)).1] at g
    exact Rat.le_of_lt (of_decide_eq_true g)
theorem sam_ticks {a b : LS} {n : Int} (h : vp a b = true) (h2 : 2 ≤ n) (h3 : n ≤ 128) (ho : smOk a b n = true) {i : Nat} (hi : i + 1 < n.toNat) : least (fsub (smT a n (i + 1)) (smT a n i)) = true := by
  obtain ⟨j, rfl⟩ : ∃ j : Nat, n = j := ⟨n.toNat, by omega⟩
  rw [Int.toNat_natCast] at hi
  obtain ⟨v1, v2, v3, v4, v5⟩ := vp_of h
  have hA := (v5 0 (by omega)).1
  have hL := (v5 (a.length - 1) (by omega)).1
  obtain ⟨z0, z1⟩ := vp_order h (a.length - 1) (by omega)
  have D := sub_between (x := a.getD (a.length - 1) dN) (y := a.getD 0 dN) (L := Fl.of .f32 0) (U := a.getD (a.length - 1) dN) hL hA zero32.1 hL (by rw [zero32.2]; grind) (by grind)
  rw [zero32.2] at D
  unfold smOk at ho
  rw [Int.toNat_natCast, Bool.and_eq_true] at ho
  have t0 := allf_get ho.1 (i := i) (by rw [mapR_len]; omega)
  have t1 := allf_get ho.1 (i := i + 1) (by rw [mapR_len]; omega)
  rw [mapR_get _ _ (by omega)] at t0 t1
  obtain ⟨q1, q2, q3, q4, q5⟩ := quo_at (m := j - 1) (i := i) (by omega) (by omega)
  unfold smT at t0 t1 ⊢
  rw [dec64 (show 1 ≤ j by omega) (show j < 2 ^ 62 by omega)] at t0 t1 ⊢
  generalize fdiv (fofInt .f32 (i : Int)) (fofInt .f32 ((j - 1 : Nat) : Int)) = Q at *
  generalize fdiv (fofInt .f32 ((i + 1 : Nat) : Int)) (fofInt .f32 ((j - 1 : Nat) : Int)) = Q' at *
  generalize fsub (a.getD (a.length - 1) dN) (a.getD 0 dN) = E at *
  generalize a.getD 0 dN = A at *
  have n1 : 0 ≤ val E * val Q := Rat.mul_nonneg D.2.1 q2
  have n2 : 0 ≤ val E * (val Q' - val Q) := Rat.mul_nonneg D.2.1 (by grind)
  have n3 : 0 ≤ val E * (1 - val Q') := Rat.mul_nonneg D.2.1 (by grind)
  have M' := mul_between (x := E) (y := Q') (L := Fl.of .f32 0) (U := E) D.1 q4 zero32.1 D.1 (by rw [zero32.2]; grind) (by grind)
  rw [zero32.2] at M'
  have M := mul_mono (x := E) (x' := E) (y := Q) (y' := Q') D.1 D.1 q1 q4 n1 (by grind) M'.1
  have M0 : 0 ≤ val (fmul E Q) := NN.mul (fun _ => D.2.1) (fun _ => q2) M.1
  have S := add_mono (x := A) (x' := A) (y := fmul E Q) (y' := fmul E Q') hA hA M.1 M'.1 (by grind) (by grind) t1
  have S0 : 0 ≤ val (fadd A (fmul E Q)) := NN.add hA M.1 z0 M0 t0
  have R := sub_between (x := fadd A (fmul E Q')) (y := fadd A (fmul E Q)) (L := Fl.of .f32 0) (U := fadd A (fmul E Q')) t1 t0 zero32.1 t1 (by rw [zero32.2]; grind) (by grind)
  rw [zero32.2] at R
  exact least_of R.1 R.2.1
def shoOk (x : LT) (a b : LS) (n : Int) : Prop := okL x = true ∧ vp a b = true ∧ (2 ≤ n ∧ n ≤ 128) ∧ smOk a b n = true ∧ meansB (mapR (smV a b n) n.toNat) = true
open Classical in
noncomputable def shoF (x : LT) (a b : LS) (n : Int) : LS × Bool := if shoOk x a b n then (mapR (shN x (mapR (smT a n) n.toNat) (mapR (smV a b n) n.toNat)) n.toNat, true) else ([], false)
noncomputable def shoG (x : LT × Pr × Int) : Option (LS × Bool) := if x.2.1.2.length < 2 ^ 62 then some (shoF x.1 x.2.1.1 x.2.1.2 x.2.2) else none
noncomputable def shoS : FSpec := ⟨[lawD, PD, I64], [L32, .bool], shoG⟩
theorem sho_no {x : LT} {a b : LS} {n : Int} (h : ¬ shoOk x a b n) : shoF x a b n = ([], false) := if_neg h
theorem sho_yes {x : LT} {a b : LS} {n : Int} (h : shoOk x a b n) : shoF x a b n = (mapR (shN x (mapR (smT a n) n.toNat) (mapR (smV a b n) n.toNat)) n.toNat, true) := if_pos h
theorem sho_shs {x : LT} {a b : LS} {n : Int} (h : shoOk x a b n) : shsOk x (mapR (smT a n) n.toNat) (mapR (smV a b n) n.toNat) := by
  obtain ⟨h1, h2, ⟨h3, h4⟩, h5, h6⟩ := h
  refine ⟨h1, by rw [mapR_len]; omega, by rw [mapR_len]; omega, by rw [mapR_len, mapR_len], means_of h6, fun i hi => ?_⟩
  rw [mapR_len] at hi
  rw [mapR_get _ _ hi, mapR_get _ _ (show i < n.toNat by omega)]
  exact sam_ticks h2 h3 h4 h5 hi
def loops_ShoS (_ _ _ : Nat) : Option LSpec := none
noncomputable def ss_ShoS : List (Nat × FSpec) := [(80, okPS), (63, vpPS), (69, withinS), (70, samPS), (89, meansS), (90, shsS)]
theorem ssOk_ShoS : FTolds Try.prog ss_ShoS := ⟨s_lawS, s_validS, s_l00In, s_samS, s_means, s_shs, trivial⟩
noncomputable def Γ_ShoS : Ctx := ctxOf Try.prog tys fs ss_ShoS loops_ShoS
noncomputable def d_ShoS (a b c : Fl .f32) (n : Int) (k l : LS) (m : Int) : Option (((List (Fl .f32)) × Bool)) := Option.bind (okPG (a, b, c, n)) fun (r0 : Bool) => (bif !r0 then (some (([], false))) else (Option.bind (vpPG (sub k 0 (List.length k), sub l 0 (List.length l))) fun (r1 : Bool) => (bif !r1 then (some (([], false))) else (Option.bind (withinG (m, 2, 128)) fun (r2 : Bool) => (bif !r2 then (some (([], false))) else (Option.bind (samPG ((sub k 0 (List.length k), sub l 0 (List.length l)), m)) fun (r3 : ((List (Fl .f32)) × ((List (Fl .f32)) × Bool))) => (bif !r3.2.2 then (some (([], false))) else (Option.bind (meansG (sub r3.2.1 0 (List.length r3.2.1))) fun (r4 : Bool) => (bif !r4 then (some (([], false))) else (Option.bind (shsG ((a, b, c, n), sub r3.1 0 (List.length r3.1), sub r3.2.1 0 (List.length r3.2.1))) fun (r5 : (List (Fl .f32))) => (some ((sub r5 0 (List.length r5), true)))))))))))))
theorem t_ShoS (a b c : Fl .f32) (n : Int) (k l : LS) (m : Int) : (fnT Γ_ShoS 10 45 [lawD, PD, I64] [L32, .bool] ((a, b, c, n), (k, l), m)).den = d_ShoS a b c n k l m := by kernel_rfl
theorem p_ShoS (a b c : Fl .f32) (n : Int) (k l : LS) (m : Int) (r : ((List (Fl .f32)) × Bool)) (h : shoG ((a, b, c, n), (k, l), m) = some r) : d_ShoS a b c n k l m = some r := by
  obtain ⟨hb, rfl⟩ := if_some (show (if l.length < 2 ^ 62 then some (shoF (a, b, c, n) k l m) else none) = some r from h)
  have k0 : vpPG (k, l) = some (vp k l) := if_pos hb
  unfold d_ShoS okPG withinG
  simp only [sub_all, k0, Option.bind_some]
  cases h1 : okL (a, b, c, n) with
  | false => rw [sho_no fun q => by have := q.1; rw [h1] at this; cases this]; rfl
  | true =>
  cases hv : vp k l with
  | false => rw [sho_no fun q => by have := q.2.1; rw [hv] at this; cases this]; rfl
  | true =>
  by_cases h2 : 2 ≤ m
  case neg => rw [sho_no fun q => h2 q.2.2.1.1, decide_eq_false h2]; rfl
  by_cases h3 : m ≤ 128
  case neg => rw [sho_no fun q => h3 q.2.2.1.2, decide_eq_false h3, decide_eq_true h2]; rfl
  have k1 : samPG ((k, l), m) = some (mapR (smT k m) m.toNat, mapR (smV k l m) m.toNat, smOk k l m) := if_pos ⟨hv, h2, h3⟩
  simp only [decide_eq_true h2, decide_eq_true h3, k1, Option.bind_some, Bool.not_true, Bool.and_self, cond_false, sub_all]
  cases ho : smOk k l m with
  | false => rw [sho_no fun q => by have := q.2.2.2.1; rw [ho] at this; cases this]; rfl
  | true =>
  have k2 : meansG (mapR (smV k l m) m.toNat) = some (meansB (mapR (smV k l m) m.toNat)) := if_pos (by show (mapR (smV k l m) m.toNat).length ≤ 128; rw [mapR_len]; omega)
  simp only [k2, Option.bind_some, Bool.not_true, cond_false]
  cases hq : meansB (mapR (smV k l m) m.toNat) with
  | false => rw [sho_no fun q => by have := q.2.2.2.2; rw [hq] at this; cases this]; rfl
  | true =>
  have ok : shoOk (a, b, c, n) k l m := ⟨h1, hv, ⟨h2, h3⟩, ho, hq⟩
  rw [sho_yes ok]
  simp only [shs_if (sho_shs ok), Option.bind_some, Bool.not_true, cond_false, sub_all, mapR_len]
theorem s_ShoS : FTold Try.prog 45 shoS := walkedF (fs := fs) (ss := ss_ShoS) (loop := loops_ShoS) tysOk mixed fnsOk ssOk_ShoS 10 45 [lawD, PD, I64] [L32, .bool] rfl _ fun ((a, b, c, n), (k, l), m) r h => (t_ShoS a b c n k l m).trans (p_ShoS a b c n k l m r h)
open Classical in
noncomputable def step2G (x : LT × Fl .f32 × Fl .f32 × Fl .f32) : Option (Fl .f32 × Bool) := if okL x.1 = true ∧ shP x.2.1 ∧ least x.2.2.2 = true then some (if fin x.2.2.1 = true then (stepF x.1 x.2.1 x.2.2.1 x.2.2.2, true) else (Fl.of .f32 0, false)) else none
noncomputable def step2S : FSpec := ⟨[lawD, F32, F32, F32], [F32, .bool], step2G⟩
open Classical in
theorem step2_some {x : LT} {s t k : Fl .f32} {r : Fl .f32 × Bool} (h : step2G (x, s, t, k) = some r) : (okL x = true ∧ shP s ∧ least k = true) ∧ (if fin t = true then (stepF x s t k, true) else (Fl.of .f32 0, false)) = r :=
  if_some (show (if okL x = true ∧ shP s ∧ least k = true then some (if fin t = true then (stepF x s t k, true) else (Fl.of .f32 0, false)) else none) = some r from h)
theorem step2_if {x : LT} {s t k : Fl .f32} (h : okL x = true ∧ shP s ∧ least k = true) : step2G (x, s, t, k) = some (if fin t = true then (stepF x s t k, true) else (Fl.of .f32 0, false)) := if_pos h
def loops_StepJ (_ _ _ : Nat) : Option LSpec := none
noncomputable def ss_StepJ : List (Nat × FSpec) := [(75, okLS), (76, shS), (73, finS), (85, leastS), (135, stepMS)]
theorem ssOk_StepJ : FTolds Try.prog ss_StepJ := ⟨s_lawI, s_shareI, s_IsFinite, s_aMass, s_stepM, trivial⟩
noncomputable def Γ_StepJ : Ctx := ctxOf Try.prog tys fs ss_StepJ loops_StepJ
noncomputable def d_StepJ (a b c : Fl .f32) (n : Int) (s t k : Fl .f32) : Option (((Fl .f32) × Bool)) := Option.bind (okLG (a, b, c, n)) fun (r0 : Bool) => (bif !r0 then (some ((Fl.of .f32 0, false))) else (Option.bind (shG s) fun (r1 : Bool) => (bif !r1 then (some ((Fl.of .f32 0, false))) else (Option.bind (finG t) fun (r2 : Bool) => (bif !r2 then (some ((Fl.of .f32 0, false))) else (Option.bind (leastG k) fun (r3 : Bool) => (bif !r3 then (some ((Fl.of .f32 0, false))) else (Option.bind (stepMG ((a, b, c, n), s, t, k)) fun (r4 : (Fl .f32)) => (some ((r4, true)))))))))))
theorem t_StepJ (a b c : Fl .f32) (n : Int) (s t k : Fl .f32) : (fnT Γ_StepJ 10 86 [lawD, F32, F32, F32] [F32, .bool] ((a, b, c, n), s, t, k)).den = d_StepJ a b c n s t k := by kernel_rfl
theorem p_StepJ (a b c : Fl .f32) (n : Int) (s t k : Fl .f32) (r : ((Fl .f32) × Bool)) (h : step2G ((a, b, c, n), s, t, k) = some r) : d_StepJ a b c n s t k = some r := by
  obtain ⟨⟨h1, h2, h4⟩, rfl⟩ := step2_some h
  have h1' : okLG (a, b, c, n) = some true := congrArg some h1
  unfold d_StepJ shG finG leastG
  simp only [h1', h2.1, h4, Option.bind_some, Bool.not_true, cond_false]
  cases h3 : fin t with
  | false => rfl
  | true =>
    rw [if_pos (show true = true from rfl), show stepMG ((a, b, c, n), s, t, k) = some (stepF (a, b, c, n) s t k) from step_if ⟨h1, h2, h3, h4⟩]; rfl
theorem s_StepJ : FTold Try.prog 86 step2S := walkedF (fs := fs) (ss := ss_StepJ) (loop := loops_StepJ) tysOk mixed fnsOk ssOk_StepJ 10 86 [lawD, F32, F32, F32] [F32, .bool] rfl _ fun ((a, b, c, n), s, t, k) r h => (t_StepJ a b c n s t k).trans (p_StepJ a b c n s t k r h)
def L_ShoI_1 : LSpec := ⟨[3, 8, 9, 11, 12], ⟨Shs.at 64 [(3, (.ptr 2146435456 0 0)), (8, (.slc 2146435457)), (9, (.slc 2146435458)), (11, (.slc 2146435459)), (12, (.int IntKind.i64))], [(2, (.arr false (EK.flt FloatKind.f32))), (3, (.arr false (EK.flt FloatKind.f32))), (2146435456, (.vals true (.cons (.flt FloatKind.f32) (.cons (.flt FloatKind.f32) (.cons (.flt FloatKind.f32) (.cons (.int IntKind.i64) .nil)))))), (2146435457, (.arr true (EK.flt FloatKind.f32))), (2146435458, (.arr true (EK.flt FloatKind.f32))), (2146435459, (.arr true (EK.flt FloatKind.f32)))]⟩, [⟨.ret, [6, 7], ⟨Shs.at 64 [(6, (.slc 2146435456)), (7, .bool)], [(2, (.arr false (EK.flt FloatKind.f32))), (3, (.arr false (EK.flt FloatKind.f32))), (2146435456, (.arr true (EK.flt FloatKind.f32)))]⟩⟩, ⟨.ext 0, [11], ⟨Shs.at 64 [(11, (.slc 2146435456))], [(2, (.arr false (EK.flt FloatKind.f32))), (3, (.arr false (EK.flt FloatKind.f32))), (2146435456, (.arr true (EK.flt FloatKind.f32)))]⟩⟩], fun _ => bigN⟩
def loops_ShoI (f k n : Nat) : Option LSpec := bif (Nat.beq f 46 && Nat.beq k 6 && Nat.beq n 1) then some L_ShoI_1 else none
abbrev S_ShoI_1 : Type := ((Nat × (Nat × (Nat × (Int × Unit)))) × ((List (Fl .f32)) × ((List (Fl .f32)) × (((Fl .f32) × ((Fl .f32) × ((Fl .f32) × (Int × Unit)))) × ((List (Fl .f32)) × ((List (Fl .f32)) × ((List (Fl .f32)) × Unit)))))))
abbrev R_ShoI_1 : Type := (((Nat × (Bool × Unit)) × ((List (Fl .f32)) × ((List (Fl .f32)) × ((List (Fl .f32)) × Unit)))) ⊕ ((Nat × Unit) × ((List (Fl .f32)) × ((List (Fl .f32)) × ((List (Fl .f32)) × Unit)))))
noncomputable def B_ShoI_1 (y : S_ShoI_1) : Option (S_ShoI_1 ⊕ R_ShoI_1) := bif decide (y.1.2.2.2.1 < (y.1.1 : Int)) then (Option.bind (mean2G (sub y.2.2.2.2.1 0 y.1.1, sub y.2.2.2.2.2.1 0 y.1.2.1, y.1.2.2.2.1)) fun (r3 : ((Fl .f32) × (Fl .f32))) => (bif inB (IntKind.i64.wrap (y.1.2.2.2.1 - 1)) y.1.2.2.1 then (Option.bind (step2G ((y.2.2.2.1.1, y.2.2.2.1.2.1, y.2.2.2.1.2.2.1, y.2.2.2.1.2.2.2.1), List.getD y.2.2.2.2.2.2.1 (0 + (IntKind.i64.wrap (y.1.2.2.2.1 - 1)).toNat) dN, r3.1, r3.2)) fun (r4 : ((Fl .f32) × Bool)) => (bif !r4.2 then (some (Sum.inr (Sum.inl (((0, (false, ())), (y.2.1, (y.2.2.1, ([], ())))))))) else (bif decide (y.1.2.2.1 + 1 ≤ maxA) then (some (Sum.inl (((y.1.1, (y.1.2.1, ((sub y.2.2.2.2.2.2.1 0 y.1.2.2.1 ++ [r4.1]).length, (IntKind.i64.wrap (y.1.2.2.2.1 + 1), ())))), (y.2.1, (y.2.2.1, ((y.2.2.2.1.1, (y.2.2.2.1.2.1, (y.2.2.2.1.2.2.1, (y.2.2.2.1.2.2.2.1, ())))), (y.2.2.2.2.1, (y.2.2.2.2.2.1, (sub y.2.2.2.2.2.2.1 0 y.1.2.2.1 ++ [r4.1], ())))))))))) else (none)))) else (none))) else (some (Sum.inr (Sum.inr (((y.1.2.2.1, ()), (y.2.1, (y.2.2.1, (y.2.2.2.2.2.2.1, ()))))))))
noncomputable def ss_ShoI : List (Nat × FSpec) := [(25, samQS), (75, okLS), (98, mean2S), (86, step2S)]
theorem ssOk_ShoI : FTolds Try.prog ss_ShoI := ⟨s_SamI, s_lawI, s_mean2, s_StepJ, trivial⟩
noncomputable def Γ_ShoI : Ctx := ctxOf Try.prog tys fs ss_ShoI loops_ShoI
noncomputable def d_ShoI (a b c : Fl .f32) (n : Int) (k l : LS) (m : Int) : Option (((List (Fl .f32)) × Bool)) := Option.bind (samQG ((sub k 0 (List.length k), sub l 0 (List.length l)), m)) fun (r0 : ((List (Fl .f32)) × ((List (Fl .f32)) × Bool))) => (bif !r0.2.2 then (some (([], false))) else (Option.bind (okLG (a, b, c, n)) fun (r1 : Bool) => (bif !r1 then (some (([], false))) else (Option.bind (iter B_ShoI_1 bigN (((List.length r0.1, (List.length r0.2.1, (1, (1, ())))), (k, (l, ((a, (b, (c, (n, ())))), (r0.1, (r0.2.1, (Fl.of .f32 0 :: [], ()))))))))) fun (r2 : (((Nat × (Bool × Unit)) × ((List (Fl .f32)) × ((List (Fl .f32)) × ((List (Fl .f32)) × Unit)))) ⊕ ((Nat × Unit) × ((List (Fl .f32)) × ((List (Fl .f32)) × ((List (Fl .f32)) × Unit)))))) => (match r2 with | .inl x5 => (some ((sub x5.2.2.2.1 0 x5.1.1, x5.1.2.1))) | .inr x5 => (some ((sub x5.2.2.2.1 0 x5.1.1, true))))))))
theorem t_ShoI (a b c : Fl .f32) (n : Int) (k l : LS) (m : Int) : (fnT Γ_ShoI 10 46 [lawD, PD, I64] [L32, .bool] ((a, b, c, n), (k, l), m)).den = d_ShoI a b c n k l m := by kernel_rfl
theorem p_ShoI (a b c : Fl .f32) (n : Int) (k l : LS) (m : Int) (r : ((List (Fl .f32)) × Bool)) (h : shoG ((a, b, c, n), (k, l), m) = some r) : d_ShoI a b c n k l m = some r := by
  obtain ⟨hb, rfl⟩ := if_some (show (if l.length < 2 ^ 62 then some (shoF (a, b, c, n) k l m) else none) = some r from h)
  have k0 : samQG ((k, l), m) = some (samF k l m) := if_pos hb
  unfold d_ShoI okLG
  simp only [sub_all, k0, Option.bind_some]
  by_cases hs : vp k l = true ∧ (2 ≤ m ∧ m ≤ 128) ∧ smOk k l m = true
  case neg => rw [sam_no hs, sho_no fun q => hs ⟨q.2.1, q.2.2.1, q.2.2.2.1⟩]; rfl
  obtain ⟨hv, ⟨h2, h3⟩, ho⟩ := hs
  rw [sam_yes ⟨hv, ⟨h2, h3⟩, ho⟩]
  simp only [Bool.not_true, cond_false, mapR_len]
  cases h1 : okL (a, b, c, n) with
  | false => rw [sho_no fun q => by have := q.1; rw [h1] at this; cases this]; rfl
  | true =>
  obtain ⟨j, rfl⟩ : ∃ j : Nat, m = j := ⟨m.toNat, by omega⟩
  have tk : ∀ i, i + 1 < j → least (fsub ((mapR (smT k j) j).getD (i + 1) dN) ((mapR (smT k j) j).getD i dN)) = true := fun i hi => by
    rw [mapR_get _ _ hi, mapR_get _ _ (show i < j by omega)]
    exact sam_ticks hv h2 h3 ho (by rw [Int.toNat_natCast]; exact hi)
  have hq : shoOk (a, b, c, n) k l j ↔ meansOk (mapR (smV k l j) j) := by
    have e : (j : Int).toNat = j := Int.toNat_natCast j
    constructor
    · intro q; have := means_of q.2.2.2.2; rw [e] at this; exact this
    · intro q; exact ⟨h1, hv, ⟨h2, h3⟩, ho, by rw [e]; exact means_t q⟩
  have hy : shoOk (a, b, c, n) k l j → shoF (a, b, c, n) k l j = (mapR (shN (a, b, c, n) (mapR (smT k j) j) (mapR (smV k l j) j)) j, true) := fun q => sho_yes q
  rw [Int.toNat_natCast]
  have lT := mapR_len (smT k j) j
  have lV := mapR_len (smV k l j) j
  generalize mapR (smT k j) j = T at *
  generalize mapR (smV k l j) j = V at *
  subst lT
  simp only [Bool.not_true, cond_false]
  have key := iter_find2 (B := B_ShoI_1) (fun i => ((T.length, (T.length, (i, ((i : Int), ())))), (k, (l, ((a, (b, (c, (n, ())))), (T, (V, (mapR (shN (a, b, c, n) T V) i, ())))))))) 1 T.length (fun i => if fin (meanF V i) = true then none else some (.inl ((0, (false, ())), (k, (l, ([], ())))))) (.inr ((T.length, ()), (k, (l, (mapR (shN (a, b, c, n) T V) T.length, ()))))) (by omega) (by omega) (fun i hi0 hi hb => by
    obtain ⟨i, rfl⟩ : ∃ i', i = i' + 1 := ⟨i - 1, by omega⟩
    have k1 : mean2G (T, V, ((i + 1 : Nat) : Int)) = some (meanF V (i + 1), fsub (T.getD (i + 1) dN) (T.getD i dN)) := if_pos ⟨by show (1 : Int) ≤ ((i + 1 : Nat) : Int); omega, by show ((i + 1 : Nat) : Int) < (T.length : Int); omega, lV, by show T.length ≤ 128; omega⟩
    have hsh := shN_sh (T := T) (V := V) h1 i (fun q hq => ⟨none_of (hb (q + 1) (by omega) (by omega)), tk q (by omega)⟩)
    have k2 := step2_if (x := (a, b, c, n)) (s := shN (a, b, c, n) T V i) (t := meanF V (i + 1)) (k := fsub (T.getD (i + 1) dN) (T.getD i dN)) ⟨h1, hsh, tk i (by omega)⟩
    unfold B_ShoI_1
    simp only [ltT hi, inc64 hi (show T.length < 2 ^ 62 by omega), cond_true, sub_all, show sub V 0 T.length = V by rw [← lV]; exact sub_all V, k1, Option.bind_some, dec64 (show 1 ≤ i + 1 by omega) (show i + 1 < 2 ^ 62 by omega), Nat.add_sub_cancel, inB_of (show i < i + 1 by omega), Int.toNat_natCast, Nat.zero_add, mapR_get _ _ (show i < i + 1 by omega), k2]
    by_cases e : fin (meanF V (i + 1)) = true
    · rw [if_pos e, if_pos e]
      have k3 : stepF (a, b, c, n) (shN (a, b, c, n) T V i) (meanF V (i + 1)) (fsub (T.getD (i + 1) dN) (T.getD i dN)) = shN (a, b, c, n) T V (i + 1) := rfl
      simp only [Bool.not_true, cond_false, maxA_one (show i + 1 < 2 ^ 30 by omega), cond_true, k3, sub_mapR9, ← mapR_succ (shN (a, b, c, n) T V) (i + 1), mapR_len]
    · rw [if_neg e, if_neg e]; rfl) (fun _ => by
    unfold B_ShoI_1
    simp only [ltF, cond_false])
  refine (congrArg (fun z => Option.bind z _) (show iter B_ShoI_1 bigN _ = _ from key)).trans ?_
  rcases firstOf_const (fun i => fin (meanF V i)) (.inl ((0, (false, ())), (k, (l, ([], ())))) : R_ShoI_1) (T.length - 1) 1 with ⟨z, hall⟩ | ⟨z, q, hq0, hq1, hbad⟩
  · rw [z, hy (hq.2 fun i hi0 hi => hall i hi0 (by omega))]
    simp only [Option.getD_none, Option.bind_some, sub_mapR9]
  · rw [z, sho_no fun w => by have := hq.1 w q hq0 (by omega); rw [hbad] at this; cases this]
    rfl
theorem s_ShoI : FTold Try.prog 46 shoS := walkedF (fs := fs) (ss := ss_ShoI) (loop := loops_ShoI) tysOk mixed fnsOk ssOk_ShoI 10 46 [lawD, PD, I64] [L32, .bool] rfl _ fun ((a, b, c, n), (k, l), m) r h => (t_ShoI a b c n k l m).trans (p_ShoI a b c n k l m r h)
theorem sho_len (x : LT) (a b : LS) (n : Int) : (shoF x a b n).1.length ≤ 128 := by
  by_cases h : shoOk x a b n
  · rw [sho_yes h, mapR_len]
    have := h.2.2.1.2
    omega
  · rw [sho_no h]; exact Nat.zero_le _
noncomputable def yesHG (x : LT × Pr × Int) : Option Bool := if x.2.1.1.length ≤ maxLen ∧ x.2.1.2.length ≤ maxLen then some true else none
noncomputable def yesHS : FSpec := ⟨[lawD, PD, I64], [.bool], yesHG⟩
def L_lawSho_1 : LSpec := ⟨[0, 1, 5], ⟨Shs.at 20 [(0, (.slc 1084392)), (1, (.int IntKind.i64)), (5, (.int IntKind.i64))], [(2, (.arr false (EK.flt FloatKind.f32))), (3, (.arr false (EK.flt FloatKind.f32))), (1028, (.vals true (.cons (.flt FloatKind.f32) (.cons (.flt FloatKind.f32) (.cons (.flt FloatKind.f32) (.cons (.int IntKind.i64) .nil)))))), (1029, (.vals true (.cons (.slc 2) (.cons (.slc 3) .nil)))), (1078248, (.arr true (EK.flt FloatKind.f32))), (1078249, (.arr true (EK.flt FloatKind.f32))), (1080296, (.arr true (EK.flt FloatKind.f32))), (1084392, (.arr true (EK.flt FloatKind.f32))), (1084393, (.arr true (EK.flt FloatKind.f32))), (1035, (.vals true (.cons (.slc 1084392) (.cons (.slc 1084393) .nil)))), (1060740, (.arr true (EK.flt FloatKind.f32))), (1060741, (.arr true (EK.flt FloatKind.f32))), (1090536, (.arr true (EK.flt FloatKind.f32))), (1104872, (.arr true (EK.flt FloatKind.f32))), (1104873, (.arr true (EK.flt FloatKind.f32))), (1108995, (.vals true (.cons (.slc 1084392) (.cons (.slc 1084393) .nil))))]⟩, [⟨.ext 0, [1], ⟨Shs.at 20 [(1, (.int IntKind.i64))], [(2, (.arr false (EK.flt FloatKind.f32))), (3, (.arr false (EK.flt FloatKind.f32))), (1028, (.vals true (.cons (.flt FloatKind.f32) (.cons (.flt FloatKind.f32) (.cons (.flt FloatKind.f32) (.cons (.int IntKind.i64) .nil)))))), (1029, (.vals true (.cons (.slc 2) (.cons (.slc 3) .nil)))), (1078248, (.arr true (EK.flt FloatKind.f32))), (1078249, (.arr true (EK.flt FloatKind.f32))), (1080296, (.arr true (EK.flt FloatKind.f32))), (1084392, (.arr true (EK.flt FloatKind.f32))), (1084393, (.arr true (EK.flt FloatKind.f32))), (1035, (.vals true (.cons (.slc 1084392) (.cons (.slc 1084393) .nil)))), (1060740, (.arr true (EK.flt FloatKind.f32))), (1060741, (.arr true (EK.flt FloatKind.f32))), (1090536, (.arr true (EK.flt FloatKind.f32))), (1104872, (.arr true (EK.flt FloatKind.f32))), (1104873, (.arr true (EK.flt FloatKind.f32))), (1108995, (.vals true (.cons (.slc 1084392) (.cons (.slc 1084393) .nil))))]⟩⟩], fun _ => bigN⟩
def L_lawSho_2 : LSpec := ⟨[0, 1, 5], ⟨Shs.at 20 [(0, (.slc 1084393)), (1, (.int IntKind.i64)), (5, (.int IntKind.i64))], [(2, (.arr false (EK.flt FloatKind.f32))), (3, (.arr false (EK.flt FloatKind.f32))), (1028, (.vals true (.cons (.flt FloatKind.f32) (.cons (.flt FloatKind.f32) (.cons (.flt FloatKind.f32) (.cons (.int IntKind.i64) .nil)))))), (1029, (.vals true (.cons (.slc 2) (.cons (.slc 3) .nil)))), (1078248, (.arr true (EK.flt FloatKind.f32))), (1078249, (.arr true (EK.flt FloatKind.f32))), (1080296, (.arr true (EK.flt FloatKind.f32))), (1084392, (.arr true (EK.flt FloatKind.f32))), (1084393, (.arr true (EK.flt FloatKind.f32))), (1035, (.vals true (.cons (.slc 1084392) (.cons (.slc 1084393) .nil)))), (1060740, (.arr true (EK.flt FloatKind.f32))), (1060741, (.arr true (EK.flt FloatKind.f32))), (1090536, (.arr true (EK.flt FloatKind.f32))), (1104872, (.arr true (EK.flt FloatKind.f32))), (1104873, (.arr true (EK.flt FloatKind.f32))), (1108995, (.vals true (.cons (.slc 1084392) (.cons (.slc 1084393) .nil))))]⟩, [⟨.ext 0, [1], ⟨Shs.at 20 [(1, (.int IntKind.i64))], [(2, (.arr false (EK.flt FloatKind.f32))), (3, (.arr false (EK.flt FloatKind.f32))), (1028, (.vals true (.cons (.flt FloatKind.f32) (.cons (.flt FloatKind.f32) (.cons (.flt FloatKind.f32) (.cons (.int IntKind.i64) .nil)))))), (1029, (.vals true (.cons (.slc 2) (.cons (.slc 3) .nil)))), (1078248, (.arr true (EK.flt FloatKind.f32))), (1078249, (.arr true (EK.flt FloatKind.f32))), (1080296, (.arr true (EK.flt FloatKind.f32))), (1084392, (.arr true (EK.flt FloatKind.f32))), (1084393, (.arr true (EK.flt FloatKind.f32))), (1035, (.vals true (.cons (.slc 1084392) (.cons (.slc 1084393) .nil)))), (1060740, (.arr true (EK.flt FloatKind.f32))), (1060741, (.arr true (EK.flt FloatKind.f32))), (1090536, (.arr true (EK.flt FloatKind.f32))), (1104872, (.arr true (EK.flt FloatKind.f32))), (1104873, (.arr true (EK.flt FloatKind.f32))), (1108995, (.vals true (.cons (.slc 1084392) (.cons (.slc 1084393) .nil))))]⟩⟩], fun _ => bigN⟩
def L_lawSho_3 : LSpec := ⟨[0, 1, 5], ⟨Shs.at 20 [(0, (.slc 1090536)), (1, (.int IntKind.i64)), (5, (.int IntKind.i64))], [(2, (.arr false (EK.flt FloatKind.f32))), (3, (.arr false (EK.flt FloatKind.f32))), (1028, (.vals true (.cons (.flt FloatKind.f32) (.cons (.flt FloatKind.f32) (.cons (.flt FloatKind.f32) (.cons (.int IntKind.i64) .nil)))))), (1029, (.vals true (.cons (.slc 2) (.cons (.slc 3) .nil)))), (1078248, (.arr true (EK.flt FloatKind.f32))), (1078249, (.arr true (EK.flt FloatKind.f32))), (1080296, (.arr true (EK.flt FloatKind.f32))), (1084392, (.arr true (EK.flt FloatKind.f32))), (1084393, (.arr true (EK.flt FloatKind.f32))), (1035, (.vals true (.cons (.slc 1084392) (.cons (.slc 1084393) .nil)))), (1060740, (.arr true (EK.flt FloatKind.f32))), (1060741, (.arr true (EK.flt FloatKind.f32))), (1090536, (.arr true (EK.flt FloatKind.f32))), (1104872, (.arr true (EK.flt FloatKind.f32))), (1104873, (.arr true (EK.flt FloatKind.f32))), (1108995, (.vals true (.cons (.slc 1084392) (.cons (.slc 1084393) .nil))))]⟩, [⟨.ext 0, [1], ⟨Shs.at 20 [(1, (.int IntKind.i64))], [(2, (.arr false (EK.flt FloatKind.f32))), (3, (.arr false (EK.flt FloatKind.f32))), (1028, (.vals true (.cons (.flt FloatKind.f32) (.cons (.flt FloatKind.f32) (.cons (.flt FloatKind.f32) (.cons (.int IntKind.i64) .nil)))))), (1029, (.vals true (.cons (.slc 2) (.cons (.slc 3) .nil)))), (1078248, (.arr true (EK.flt FloatKind.f32))), (1078249, (.arr true (EK.flt FloatKind.f32))), (1080296, (.arr true (EK.flt FloatKind.f32))), (1084392, (.arr true (EK.flt FloatKind.f32))), (1084393, (.arr true (EK.flt FloatKind.f32))), (1035, (.vals true (.cons (.slc 1084392) (.cons (.slc 1084393) .nil)))), (1060740, (.arr true (EK.flt FloatKind.f32))), (1060741, (.arr true (EK.flt FloatKind.f32))), (1090536, (.arr true (EK.flt FloatKind.f32))), (1104872, (.arr true (EK.flt FloatKind.f32))), (1104873, (.arr true (EK.flt FloatKind.f32))), (1108995, (.vals true (.cons (.slc 1084392) (.cons (.slc 1084393) .nil))))]⟩⟩], fun _ => bigN⟩
def loops_lawSho (f k n : Nat) : Option LSpec := bif (Nat.beq f 27 && Nat.beq k 2 && Nat.beq n 1109001) then some L_lawSho_1 else bif (Nat.beq f 27 && Nat.beq k 2 && Nat.beq n 1109005) then some L_lawSho_2 else bif (Nat.beq f 27 && Nat.beq k 2 && Nat.beq n 1099) then some L_lawSho_3 else none
abbrev S_lawSho_1 : Type := ((Nat × (Int × (Int × Unit))) × ((List (Fl .f32)) × ((List (Fl .f32)) × (((Fl .f32) × ((Fl .f32) × ((Fl .f32) × (Int × Unit)))) × ((Nat × (Nat × Unit)) × ((List (Fl .f32)) × ((List (Fl .f32)) × ((List (Fl .f32)) × ((List (Fl .f32)) × ((List (Fl .f32)) × ((Nat × (Nat × Unit)) × ((List (Fl .f32)) × ((List (Fl .f32)) × ((List (Fl .f32)) × ((List (Fl .f32)) × ((List (Fl .f32)) × ((Nat × (Nat × Unit)) × Unit)))))))))))))))))
abbrev R_lawSho_1 : Type := ((Int × Unit) × ((List (Fl .f32)) × ((List (Fl .f32)) × (((Fl .f32) × ((Fl .f32) × ((Fl .f32) × (Int × Unit)))) × ((Nat × (Nat × Unit)) × ((List (Fl .f32)) × ((List (Fl .f32)) × ((List (Fl .f32)) × ((List (Fl .f32)) × ((List (Fl .f32)) × ((Nat × (Nat × Unit)) × ((List (Fl .f32)) × ((List (Fl .f32)) × ((List (Fl .f32)) × ((List (Fl .f32)) × ((List (Fl .f32)) × ((Nat × (Nat × Unit)) × Unit)))))))))))))))))
noncomputable def B_lawSho_1 (y : S_lawSho_1) : Option (S_lawSho_1 ⊕ R_lawSho_1) := bif decide (y.1.2.2.1 < (y.1.1 : Int)) then (bif inB y.1.2.2.1 y.1.1 then (some (Sum.inl (((y.1.1, (IntKind.i64.wrap (y.1.2.1 + 1), (IntKind.i64.wrap (y.1.2.2.1 + 1), ()))), (y.2.1, (y.2.2.1, ((y.2.2.2.1.1, (y.2.2.2.1.2.1, (y.2.2.2.1.2.2.1, (y.2.2.2.1.2.2.2.1, ())))), ((y.2.2.2.2.1.1, (y.2.2.2.2.1.2.1, ())), (y.2.2.2.2.2.1, (y.2.2.2.2.2.2.1, (y.2.2.2.2.2.2.2.1, (List.set y.2.2.2.2.2.2.2.2.1 (0 + Int.toNat y.1.2.2.1) (fofInt .f32 y.1.2.1), (y.2.2.2.2.2.2.2.2.2.1, ((y.2.2.2.2.2.2.2.2.2.2.1.1, (y.2.2.2.2.2.2.2.2.2.2.1.2.1, ())), (y.2.2.2.2.2.2.2.2.2.2.2.1, (y.2.2.2.2.2.2.2.2.2.2.2.2.1, (y.2.2.2.2.2.2.2.2.2.2.2.2.2.1, (y.2.2.2.2.2.2.2.2.2.2.2.2.2.2.1, (y.2.2.2.2.2.2.2.2.2.2.2.2.2.2.2.1, ((y.2.2.2.2.2.2.2.2.2.2.2.2.2.2.2.2.1.1, (y.2.2.2.2.2.2.2.2.2.2.2.2.2.2.2.2.1.2.1, ())), ())))))))))))))))))))) else (none)) else (some (Sum.inr (((y.1.2.1, ()), (y.2.1, (y.2.2.1, ((y.2.2.2.1.1, (y.2.2.2.1.2.1, (y.2.2.2.1.2.2.1, (y.2.2.2.1.2.2.2.1, ())))), ((y.2.2.2.2.1.1, (y.2.2.2.2.1.2.1, ())), (y.2.2.2.2.2.1, (y.2.2.2.2.2.2.1, (y.2.2.2.2.2.2.2.1, (y.2.2.2.2.2.2.2.2.1, (y.2.2.2.2.2.2.2.2.2.1, ((y.2.2.2.2.2.2.2.2.2.2.1.1, (y.2.2.2.2.2.2.2.2.2.2.1.2.1, ())), (y.2.2.2.2.2.2.2.2.2.2.2.1, (y.2.2.2.2.2.2.2.2.2.2.2.2.1, (y.2.2.2.2.2.2.2.2.2.2.2.2.2.1, (y.2.2.2.2.2.2.2.2.2.2.2.2.2.2.1, (y.2.2.2.2.2.2.2.2.2.2.2.2.2.2.2.1, ((y.2.2.2.2.2.2.2.2.2.2.2.2.2.2.2.2.1.1, (y.2.2.2.2.2.2.2.2.2.2.2.2.2.2.2.2.1.2.1, ())), ()))))))))))))))))))))
abbrev S_lawSho_2 : Type := ((Nat × (Int × (Int × Unit))) × ((List (Fl .f32)) × ((List (Fl .f32)) × (((Fl .f32) × ((Fl .f32) × ((Fl .f32) × (Int × Unit)))) × ((Nat × (Nat × Unit)) × ((List (Fl .f32)) × ((List (Fl .f32)) × ((List (Fl .f32)) × ((List (Fl .f32)) × ((List (Fl .f32)) × ((Nat × (Nat × Unit)) × ((List (Fl .f32)) × ((List (Fl .f32)) × ((List (Fl .f32)) × ((List (Fl .f32)) × ((List (Fl .f32)) × ((Nat × (Nat × Unit)) × Unit)))))))))))))))))
abbrev R_lawSho_2 : Type := ((Int × Unit) × ((List (Fl .f32)) × ((List (Fl .f32)) × (((Fl .f32) × ((Fl .f32) × ((Fl .f32) × (Int × Unit)))) × ((Nat × (Nat × Unit)) × ((List (Fl .f32)) × ((List (Fl .f32)) × ((List (Fl .f32)) × ((List (Fl .f32)) × ((List (Fl .f32)) × ((Nat × (Nat × Unit)) × ((List (Fl .f32)) × ((List (Fl .f32)) × ((List (Fl .f32)) × ((List (Fl .f32)) × ((List (Fl .f32)) × ((Nat × (Nat × Unit)) × Unit)))))))))))))))))
noncomputable def B_lawSho_2 (y : S_lawSho_2) : Option (S_lawSho_2 ⊕ R_lawSho_2) := bif decide (y.1.2.2.1 < (y.1.1 : Int)) then (bif inB y.1.2.2.1 y.1.1 then (some (Sum.inl (((y.1.1, (IntKind.i64.wrap (y.1.2.1 + 1), (IntKind.i64.wrap (y.1.2.2.1 + 1), ()))), (y.2.1, (y.2.2.1, ((y.2.2.2.1.1, (y.2.2.2.1.2.1, (y.2.2.2.1.2.2.1, (y.2.2.2.1.2.2.2.1, ())))), ((y.2.2.2.2.1.1, (y.2.2.2.2.1.2.1, ())), (y.2.2.2.2.2.1, (y.2.2.2.2.2.2.1, (y.2.2.2.2.2.2.2.1, (y.2.2.2.2.2.2.2.2.1, (List.set y.2.2.2.2.2.2.2.2.2.1 (0 + Int.toNat y.1.2.2.1) (fofInt .f32 y.1.2.1), ((y.2.2.2.2.2.2.2.2.2.2.1.1, (y.2.2.2.2.2.2.2.2.2.2.1.2.1, ())), (y.2.2.2.2.2.2.2.2.2.2.2.1, (y.2.2.2.2.2.2.2.2.2.2.2.2.1, (y.2.2.2.2.2.2.2.2.2.2.2.2.2.1, (y.2.2.2.2.2.2.2.2.2.2.2.2.2.2.1, (y.2.2.2.2.2.2.2.2.2.2.2.2.2.2.2.1, ((y.2.2.2.2.2.2.2.2.2.2.2.2.2.2.2.2.1.1, (y.2.2.2.2.2.2.2.2.2.2.2.2.2.2.2.2.1.2.1, ())), ())))))))))))))))))))) else (none)) else (some (Sum.inr (((y.1.2.1, ()), (y.2.1, (y.2.2.1, ((y.2.2.2.1.1, (y.2.2.2.1.2.1, (y.2.2.2.1.2.2.1, (y.2.2.2.1.2.2.2.1, ())))), ((y.2.2.2.2.1.1, (y.2.2.2.2.1.2.1, ())), (y.2.2.2.2.2.1, (y.2.2.2.2.2.2.1, (y.2.2.2.2.2.2.2.1, (y.2.2.2.2.2.2.2.2.1, (y.2.2.2.2.2.2.2.2.2.1, ((y.2.2.2.2.2.2.2.2.2.2.1.1, (y.2.2.2.2.2.2.2.2.2.2.1.2.1, ())), (y.2.2.2.2.2.2.2.2.2.2.2.1, (y.2.2.2.2.2.2.2.2.2.2.2.2.1, (y.2.2.2.2.2.2.2.2.2.2.2.2.2.1, (y.2.2.2.2.2.2.2.2.2.2.2.2.2.2.1, (y.2.2.2.2.2.2.2.2.2.2.2.2.2.2.2.1, ((y.2.2.2.2.2.2.2.2.2.2.2.2.2.2.2.2.1.1, (y.2.2.2.2.2.2.2.2.2.2.2.2.2.2.2.2.1.2.1, ())), ()))))))))))))))))))))
abbrev S_lawSho_3 : Type := ((Nat × (Int × (Int × Unit))) × ((List (Fl .f32)) × ((List (Fl .f32)) × (((Fl .f32) × ((Fl .f32) × ((Fl .f32) × (Int × Unit)))) × ((Nat × (Nat × Unit)) × ((List (Fl .f32)) × ((List (Fl .f32)) × ((List (Fl .f32)) × ((List (Fl .f32)) × ((List (Fl .f32)) × ((Nat × (Nat × Unit)) × ((List (Fl .f32)) × ((List (Fl .f32)) × ((List (Fl .f32)) × ((List (Fl .f32)) × ((List (Fl .f32)) × ((Nat × (Nat × Unit)) × Unit)))))))))))))))))
abbrev R_lawSho_3 : Type := ((Int × Unit) × ((List (Fl .f32)) × ((List (Fl .f32)) × (((Fl .f32) × ((Fl .f32) × ((Fl .f32) × (Int × Unit)))) × ((Nat × (Nat × Unit)) × ((List (Fl .f32)) × ((List (Fl .f32)) × ((List (Fl .f32)) × ((List (Fl .f32)) × ((List (Fl .f32)) × ((Nat × (Nat × Unit)) × ((List (Fl .f32)) × ((List (Fl .f32)) × ((List (Fl .f32)) × ((List (Fl .f32)) × ((List (Fl .f32)) × ((Nat × (Nat × Unit)) × Unit)))))))))))))))))
noncomputable def B_lawSho_3 (y : S_lawSho_3) : Option (S_lawSho_3 ⊕ R_lawSho_3) := bif decide (y.1.2.2.1 < (y.1.1 : Int)) then (bif inB y.1.2.2.1 y.1.1 then (some (Sum.inl (((y.1.1, (IntKind.i64.wrap (y.1.2.1 + 1), (IntKind.i64.wrap (y.1.2.2.1 + 1), ()))), (y.2.1, (y.2.2.1, ((y.2.2.2.1.1, (y.2.2.2.1.2.1, (y.2.2.2.1.2.2.1, (y.2.2.2.1.2.2.2.1, ())))), ((y.2.2.2.2.1.1, (y.2.2.2.2.1.2.1, ())), (y.2.2.2.2.2.1, (y.2.2.2.2.2.2.1, (y.2.2.2.2.2.2.2.1, (y.2.2.2.2.2.2.2.2.1, (y.2.2.2.2.2.2.2.2.2.1, ((y.2.2.2.2.2.2.2.2.2.2.1.1, (y.2.2.2.2.2.2.2.2.2.2.1.2.1, ())), (y.2.2.2.2.2.2.2.2.2.2.2.1, (y.2.2.2.2.2.2.2.2.2.2.2.2.1, (List.set y.2.2.2.2.2.2.2.2.2.2.2.2.2.1 (0 + Int.toNat y.1.2.2.1) (fofInt .f32 y.1.2.1), (y.2.2.2.2.2.2.2.2.2.2.2.2.2.2.1, (y.2.2.2.2.2.2.2.2.2.2.2.2.2.2.2.1, ((y.2.2.2.2.2.2.2.2.2.2.2.2.2.2.2.2.1.1, (y.2.2.2.2.2.2.2.2.2.2.2.2.2.2.2.2.1.2.1, ())), ())))))))))))))))))))) else (none)) else (some (Sum.inr (((y.1.2.1, ()), (y.2.1, (y.2.2.1, ((y.2.2.2.1.1, (y.2.2.2.1.2.1, (y.2.2.2.1.2.2.1, (y.2.2.2.1.2.2.2.1, ())))), ((y.2.2.2.2.1.1, (y.2.2.2.2.1.2.1, ())), (y.2.2.2.2.2.1, (y.2.2.2.2.2.2.1, (y.2.2.2.2.2.2.2.1, (y.2.2.2.2.2.2.2.2.1, (y.2.2.2.2.2.2.2.2.2.1, ((y.2.2.2.2.2.2.2.2.2.2.1.1, (y.2.2.2.2.2.2.2.2.2.2.1.2.1, ())), (y.2.2.2.2.2.2.2.2.2.2.2.1, (y.2.2.2.2.2.2.2.2.2.2.2.2.1, (y.2.2.2.2.2.2.2.2.2.2.2.2.2.1, (y.2.2.2.2.2.2.2.2.2.2.2.2.2.2.1, (y.2.2.2.2.2.2.2.2.2.2.2.2.2.2.2.1, ((y.2.2.2.2.2.2.2.2.2.2.2.2.2.2.2.2.1.1, (y.2.2.2.2.2.2.2.2.2.2.2.2.2.2.2.2.1.2.1, ())), ()))))))))))))))))))))
noncomputable def ss_lawSho : List (Nat × FSpec) := [(15, sz2S), (17, copy2S), (30, lawCS), (45, shoS), (46, shoS), (26, selfLS), (19, self2S), (28, heldS)]
theorem ssOk_lawSho : FTolds Try.prog ss_lawSho := ⟨s_szP, s_toP, s_toLaw, s_ShoS, s_ShoI, s_eqL, s_eqP, s_heldL, trivial⟩
noncomputable def Γ_lawSho : Ctx := ctxOf Try.prog tys fs ss_lawSho loops_lawSho
noncomputable def d_lawSho (u v w : Fl .f32) (n : Int) (a b : LS) (m : Int) : Option (Bool) := Option.bind (sz2G ((sub a 0 (List.length a), sub b 0 (List.length b)), 1048576)) fun (r0 : Int) => (bif decide (r0 < 0) then (some (true)) else (Option.bind (lawCG (u, v, w, n)) fun (r1 : ((Fl .f32) × ((Fl .f32) × ((Fl .f32) × Int)))) => (Option.bind (copy2G (sub a 0 (List.length a), sub b 0 (List.length b))) fun (r2 : ((List (Fl .f32)) × (List (Fl .f32)))) => (Option.bind (shoG ((r1.1, r1.2.1, r1.2.2.1, r1.2.2.2), (sub r2.1 0 (List.length r2.1), sub r2.2 0 (List.length r2.2)), m)) fun (r3 : ((List (Fl .f32)) × Bool)) => (Option.bind (copy2G (sub a 0 (List.length a), sub b 0 (List.length b))) fun (r4 : ((List (Fl .f32)) × (List (Fl .f32)))) => (Option.bind (lawCG (u, v, w, n)) fun (r5 : ((Fl .f32) × ((Fl .f32) × ((Fl .f32) × Int)))) => (Option.bind (shoG ((r5.1, r5.2.1, r5.2.2.1, r5.2.2.2), (sub r4.1 0 (List.length r4.1), sub r4.2 0 (List.length r4.2)), m)) fun (r6 : ((List (Fl .f32)) × Bool)) => (Option.bind (selfLG (sub r6.1 0 (List.length r6.1), sub r3.1 0 (List.length r3.1))) fun (r7 : Bool) => (bif !r7 then (some (false)) else (bif !r6.2 == r3.2 then (some (false)) else (Option.bind (copy2G (sub a 0 (List.length a), sub b 0 (List.length b))) fun (r8 : ((List (Fl .f32)) × (List (Fl .f32)))) => (Option.bind (self2G ((sub r4.1 0 (List.length r4.1), sub r4.2 0 (List.length r4.2)), sub r8.1 0 (List.length r8.1), sub r8.2 0 (List.length r8.2))) fun (r9 : Bool) => (bif !r9 then (some (false)) else (Option.bind (iter B_lawSho_1 bigN (((List.length r4.1, (1, (0, ()))), (a, (b, ((u, (v, (w, (n, ())))), ((List.length a, (List.length b, ())), (r2.1, (r2.2, (r3.1, (r4.1, (r4.2, ((List.length r4.1, (List.length r4.2, ())), ([], ([], (r6.1, (r8.1, (r8.2, ((List.length r4.1, (List.length r4.2, ())), ()))))))))))))))))))) fun (r10 : ((Int × Unit) × ((List (Fl .f32)) × ((List (Fl .f32)) × (((Fl .f32) × ((Fl .f32) × ((Fl .f32) × (Int × Unit)))) × ((Nat × (Nat × Unit)) × ((List (Fl .f32)) × ((List (Fl .f32)) × ((List (Fl .f32)) × ((List (Fl .f32)) × ((List (Fl .f32)) × ((Nat × (Nat × Unit)) × ((List (Fl .f32)) × ((List (Fl .f32)) × ((List (Fl .f32)) × ((List (Fl .f32)) × ((List (Fl .f32)) × ((Nat × (Nat × Unit)) × Unit)))))))))))))))))) => (Option.bind (iter B_lawSho_2 bigN (((r10.2.2.2.2.2.2.2.2.2.2.2.2.2.2.2.2.1.2.1, (r10.1.1, (0, ()))), (r10.2.1, (r10.2.2.1, ((r10.2.2.2.1.1, (r10.2.2.2.1.2.1, (r10.2.2.2.1.2.2.1, (r10.2.2.2.1.2.2.2.1, ())))), ((r10.2.2.2.2.1.1, (r10.2.2.2.2.1.2.1, ())), (r10.2.2.2.2.2.1, (r10.2.2.2.2.2.2.1, (r10.2.2.2.2.2.2.2.1, (r10.2.2.2.2.2.2.2.2.1, (r10.2.2.2.2.2.2.2.2.2.1, ((r10.2.2.2.2.2.2.2.2.2.2.1.1, (r10.2.2.2.2.2.2.2.2.2.2.1.2.1, ())), (r10.2.2.2.2.2.2.2.2.2.2.2.1, (r10.2.2.2.2.2.2.2.2.2.2.2.2.1, (r10.2.2.2.2.2.2.2.2.2.2.2.2.2.1, (r10.2.2.2.2.2.2.2.2.2.2.2.2.2.2.1, (r10.2.2.2.2.2.2.2.2.2.2.2.2.2.2.2.1, ((r10.2.2.2.2.2.2.2.2.2.2.2.2.2.2.2.2.1.1, (r10.2.2.2.2.2.2.2.2.2.2.2.2.2.2.2.2.1.2.1, ())), ()))))))))))))))))))) fun (r11 : ((Int × Unit) × ((List (Fl .f32)) × ((List (Fl .f32)) × (((Fl .f32) × ((Fl .f32) × ((Fl .f32) × (Int × Unit)))) × ((Nat × (Nat × Unit)) × ((List (Fl .f32)) × ((List (Fl .f32)) × ((List (Fl .f32)) × ((List (Fl .f32)) × ((List (Fl .f32)) × ((Nat × (Nat × Unit)) × ((List (Fl .f32)) × ((List (Fl .f32)) × ((List (Fl .f32)) × ((List (Fl .f32)) × ((List (Fl .f32)) × ((Nat × (Nat × Unit)) × Unit)))))))))))))))))) => (bif decide (r11.1.1 < 0) then (some (false)) else (Option.bind (selfLG (sub r11.2.2.2.2.2.2.2.2.2.2.2.2.2.1 0 (List.length r6.1), sub r11.2.2.2.2.2.2.2.1 0 (List.length r3.1))) fun (r12 : Bool) => (bif !r12 then (some (false)) else (bif !r6.2 == r3.2 then (some (false)) else (Option.bind (iter B_lawSho_3 bigN (((List.length r6.1, (1, (0, ()))), (r11.2.1, (r11.2.2.1, ((r11.2.2.2.1.1, (r11.2.2.2.1.2.1, (r11.2.2.2.1.2.2.1, (r11.2.2.2.1.2.2.2.1, ())))), ((r11.2.2.2.2.1.1, (r11.2.2.2.2.1.2.1, ())), (r11.2.2.2.2.2.1, (r11.2.2.2.2.2.2.1, (r11.2.2.2.2.2.2.2.1, (r11.2.2.2.2.2.2.2.2.1, (r11.2.2.2.2.2.2.2.2.2.1, ((r11.2.2.2.2.2.2.2.2.2.2.1.1, (r11.2.2.2.2.2.2.2.2.2.2.1.2.1, ())), (r11.2.2.2.2.2.2.2.2.2.2.2.1, (r11.2.2.2.2.2.2.2.2.2.2.2.2.1, (r11.2.2.2.2.2.2.2.2.2.2.2.2.2.1, (r11.2.2.2.2.2.2.2.2.2.2.2.2.2.2.1, (r11.2.2.2.2.2.2.2.2.2.2.2.2.2.2.2.1, ((r11.2.2.2.2.2.2.2.2.2.2.2.2.2.2.2.2.1.1, (r11.2.2.2.2.2.2.2.2.2.2.2.2.2.2.2.2.1.2.1, ())), ()))))))))))))))))))) fun (r13 : ((Int × Unit) × ((List (Fl .f32)) × ((List (Fl .f32)) × (((Fl .f32) × ((Fl .f32) × ((Fl .f32) × (Int × Unit)))) × ((Nat × (Nat × Unit)) × ((List (Fl .f32)) × ((List (Fl .f32)) × ((List (Fl .f32)) × ((List (Fl .f32)) × ((List (Fl .f32)) × ((Nat × (Nat × Unit)) × ((List (Fl .f32)) × ((List (Fl .f32)) × ((List (Fl .f32)) × ((List (Fl .f32)) × ((List (Fl .f32)) × ((Nat × (Nat × Unit)) × Unit)))))))))))))))))) => (Option.bind (heldG (sub r13.2.2.2.2.2.2.2.2.2.2.2.2.2.1 0 (List.length r6.1), 1)) fun (r14 : Int) => (bif decide (r14 < 0) then (some (false)) else (bif r14 != r13.1.1 then (some (false)) else (Option.bind (lawCG (r13.2.2.2.1.1, r13.2.2.2.1.2.1, r13.2.2.2.1.2.2.1, r13.2.2.2.1.2.2.2.1)) fun (r15 : ((Fl .f32) × ((Fl .f32) × ((Fl .f32) × Int)))) => (Option.bind (copy2G (sub r13.2.1 0 r13.2.2.2.2.1.1, sub r13.2.2.1 0 r13.2.2.2.2.1.2.1)) fun (r16 : ((List (Fl .f32)) × (List (Fl .f32)))) => (Option.bind (shoG ((r15.1, r15.2.1, r15.2.2.1, r15.2.2.2), (sub r16.1 0 (List.length r16.1), sub r16.2 0 (List.length r16.2)), m)) fun (r17 : ((List (Fl .f32)) × Bool)) => (Option.bind (selfLG (sub r17.1 0 (List.length r17.1), sub r13.2.2.2.2.2.2.2.1 0 (List.length r3.1))) fun (r18 : Bool) => (bif !r18 then (some (false)) else (bif !r17.2 == r3.2 then (some (false)) else (Option.bind (heldG (sub r13.2.2.2.2.2.2.2.2.2.2.2.2.2.1 0 (List.length r6.1), 1)) fun (r19 : Int) => (bif decide (r19 < 0) then (some (false)) else (bif r19 != r13.1.1 then (some (false)) else (some (true))))))))))))))))))))))))))))))))))
theorem t_lawSho (u v w : Fl .f32) (n : Int) (a b : LS) (m : Int) : (fnT Γ_lawSho 10 11 [lawD, PD, I64] [.bool] ((u, v, w, n), (a, b), m)).den = d_lawSho u v w n a b m := by kernel_rfl
theorem k_lawSho_1 {k : Int} {v0 : (List (Fl .f32))} {v1 : (List (Fl .f32))} {v2 : (Fl .f32)} {v3 : (Fl .f32)} {v4 : (Fl .f32)} {v5 : Int} {v7 : Nat} {v8 : Nat} {v10 : (List (Fl .f32))} {v11 : (List (Fl .f32))} {v12 : (List (Fl .f32))} {v13 : (List (Fl .f32))} {v14 : (List (Fl .f32))} {v15 : Nat} {v16 : Nat} {v18 : (List (Fl .f32))} {v19 : (List (Fl .f32))} {v20 : (List (Fl .f32))} {v21 : (List (Fl .f32))} {v22 : (List (Fl .f32))} {v23 : Nat} {v24 : Nat} (hb : v13.length < 2 ^ 60) (h0 : 0 ≤ k) (h1 : k < 2 ^ 60) : iter B_lawSho_1 bigN ((v13.length, (k, (0, ()))), (v0, (v1, ((v2, (v3, (v4, (v5, ())))), ((v7, (v8, ())), (v10, (v11, (v12, (v13, (v14, ((v15, (v16, ())), (v18, (v19, (v20, (v21, (v22, ((v23, (v24, ())), ()))))))))))))))))) = some ((((k + (v13.length : Int)), ()), (v0, (v1, ((v2, (v3, (v4, (v5, ())))), ((v7, (v8, ())), (v10, (v11, (v12, ((marks k v13.length), (v14, ((v15, (v16, ())), (v18, (v19, (v20, (v21, (v22, ((v23, (v24, ())), ())))))))))))))))))) := by
  have key := iter_for (B := B_lawSho_1) (fun i => ((v13.length, (k + i, ((i : Int), ()))), (v0, (v1, ((v2, (v3, (v4, (v5, ())))), ((v7, (v8, ())), (v10, (v11, (v12, ((markUp k v13 i), (v14, ((v15, (v16, ())), (v18, (v19, (v20, (v21, (v22, ((v23, (v24, ())), ())))))))))))))))))) 0 v13.length ((((k + (v13.length : Int)), ()), (v0, (v1, ((v2, (v3, (v4, (v5, ())))), ((v7, (v8, ())), (v10, (v11, (v12, ((marks k v13.length), (v14, ((v15, (v16, ())), (v18, (v19, (v20, (v21, (v22, ((v23, (v24, ())), ())))))))))))))))))) (Nat.zero_le _) (by omega) (fun i _ hi => by
    unfold B_lawSho_1
    simp only [ltT hi, inB_of hi, inc64 hi (show v13.length < 2 ^ 62 by omega), wrapAdd h0 h1 (show i < 2 ^ 60 by omega), Int.toNat_natCast, Nat.zero_add, cond_true, markUp_succ k v13 hi]) (by
    unfold B_lawSho_1
    simp only [ltF, cond_false, markUp_end])
  simpa only [markUp_zero, Int.natCast_zero, Int.add_zero] using key
theorem k_lawSho_2 {k : Int} {v0 : (List (Fl .f32))} {v1 : (List (Fl .f32))} {v2 : (Fl .f32)} {v3 : (Fl .f32)} {v4 : (Fl .f32)} {v5 : Int} {v7 : Nat} {v8 : Nat} {v10 : (List (Fl .f32))} {v11 : (List (Fl .f32))} {v12 : (List (Fl .f32))} {v13 : (List (Fl .f32))} {v14 : (List (Fl .f32))} {v15 : Nat} {v16 : Nat} {v18 : (List (Fl .f32))} {v19 : (List (Fl .f32))} {v20 : (List (Fl .f32))} {v21 : (List (Fl .f32))} {v22 : (List (Fl .f32))} {v23 : Nat} {v24 : Nat} (hb : v14.length < 2 ^ 60) (h0 : 0 ≤ k) (h1 : k < 2 ^ 60) : iter B_lawSho_2 bigN ((v14.length, (k, (0, ()))), (v0, (v1, ((v2, (v3, (v4, (v5, ())))), ((v7, (v8, ())), (v10, (v11, (v12, (v13, (v14, ((v15, (v16, ())), (v18, (v19, (v20, (v21, (v22, ((v23, (v24, ())), ()))))))))))))))))) = some ((((k + (v14.length : Int)), ()), (v0, (v1, ((v2, (v3, (v4, (v5, ())))), ((v7, (v8, ())), (v10, (v11, (v12, (v13, ((marks k v14.length), ((v15, (v16, ())), (v18, (v19, (v20, (v21, (v22, ((v23, (v24, ())), ())))))))))))))))))) := by
  have key := iter_for (B := B_lawSho_2) (fun i => ((v14.length, (k + i, ((i : Int), ()))), (v0, (v1, ((v2, (v3, (v4, (v5, ())))), ((v7, (v8, ())), (v10, (v11, (v12, (v13, ((markUp k v14 i), ((v15, (v16, ())), (v18, (v19, (v20, (v21, (v22, ((v23, (v24, ())), ())))))))))))))))))) 0 v14.length ((((k + (v14.length : Int)), ()), (v0, (v1, ((v2, (v3, (v4, (v5, ())))), ((v7, (v8, ())), (v10, (v11, (v12, (v13, ((marks k v14.length), ((v15, (v16, ())), (v18, (v19, (v20, (v21, (v22, ((v23, (v24, ())), ())))))))))))))))))) (Nat.zero_le _) (by omega) (fun i _ hi => by
    unfold B_lawSho_2
    simp only [ltT hi, inB_of hi, inc64 hi (show v14.length < 2 ^ 62 by omega), wrapAdd h0 h1 (show i < 2 ^ 60 by omega), Int.toNat_natCast, Nat.zero_add, cond_true, markUp_succ k v14 hi]) (by
    unfold B_lawSho_2
    simp only [ltF, cond_false, markUp_end])
  simpa only [markUp_zero, Int.natCast_zero, Int.add_zero] using key
theorem k_lawSho_3 {k : Int} {v0 : (List (Fl .f32))} {v1 : (List (Fl .f32))} {v2 : (Fl .f32)} {v3 : (Fl .f32)} {v4 : (Fl .f32)} {v5 : Int} {v7 : Nat} {v8 : Nat} {v10 : (List (Fl .f32))} {v11 : (List (Fl .f32))} {v12 : (List (Fl .f32))} {v13 : (List (Fl .f32))} {v14 : (List (Fl .f32))} {v15 : Nat} {v16 : Nat} {v18 : (List (Fl .f32))} {v19 : (List (Fl .f32))} {v20 : (List (Fl .f32))} {v21 : (List (Fl .f32))} {v22 : (List (Fl .f32))} {v23 : Nat} {v24 : Nat} (hb : v20.length < 2 ^ 60) (h0 : 0 ≤ k) (h1 : k < 2 ^ 60) : iter B_lawSho_3 bigN ((v20.length, (k, (0, ()))), (v0, (v1, ((v2, (v3, (v4, (v5, ())))), ((v7, (v8, ())), (v10, (v11, (v12, (v13, (v14, ((v15, (v16, ())), (v18, (v19, (v20, (v21, (v22, ((v23, (v24, ())), ()))))))))))))))))) = some ((((k + (v20.length : Int)), ()), (v0, (v1, ((v2, (v3, (v4, (v5, ())))), ((v7, (v8, ())), (v10, (v11, (v12, (v13, (v14, ((v15, (v16, ())), (v18, (v19, ((marks k v20.length), (v21, (v22, ((v23, (v24, ())), ())))))))))))))))))) := by
  have key := iter_for (B := B_lawSho_3) (fun i => ((v20.length, (k + i, ((i : Int), ()))), (v0, (v1, ((v2, (v3, (v4, (v5, ())))), ((v7, (v8, ())), (v10, (v11, (v12, (v13, (v14, ((v15, (v16, ())), (v18, (v19, ((markUp k v20 i), (v21, (v22, ((v23, (v24, ())), ())))))))))))))))))) 0 v20.length ((((k + (v20.length : Int)), ()), (v0, (v1, ((v2, (v3, (v4, (v5, ())))), ((v7, (v8, ())), (v10, (v11, (v12, (v13, (v14, ((v15, (v16, ())), (v18, (v19, ((marks k v20.length), (v21, (v22, ((v23, (v24, ())), ())))))))))))))))))) (Nat.zero_le _) (by omega) (fun i _ hi => by
    unfold B_lawSho_3
    simp only [ltT hi, inB_of hi, inc64 hi (show v20.length < 2 ^ 62 by omega), wrapAdd h0 h1 (show i < 2 ^ 60 by omega), Int.toNat_natCast, Nat.zero_add, cond_true, markUp_succ k v20 hi]) (by
    unfold B_lawSho_3
    simp only [ltF, cond_false, markUp_end])
  simpa only [markUp_zero, Int.natCast_zero, Int.add_zero] using key
theorem p_lawSho (u v w : Fl .f32) (n : Int) (a b : LS) (m : Int) (r : Bool) (h : yesHG ((u, v, w, n), (a, b), m) = some r) : d_lawSho u v w n a b m = some r := by
  obtain ⟨⟨h1, h2⟩, rfl⟩ := if_some (show (if a.length ≤ maxLen ∧ b.length ≤ maxLen then some true else none) = some r from h)
  have k1 : sz2G ((a, b), 1048576) = some (szF2 1048576 a.length b.length) := if_pos ⟨show (0 : Int) ≤ 1048576 by decide, show (1048576 : Int) ≤ 2 ^ 20 by decide, h1, h2⟩
  unfold d_lawSho
  simp only [sub_all, k1, Option.bind_some]
  by_cases c1 : (1048576 : Int) < (a.length : Int) + b.length
  · have e1 : szF2 1048576 a.length b.length = -1 := if_pos c1
    rw [e1]; rfl
  · have e1 : szF2 1048576 a.length b.length = 1048576 - a.length - b.length := if_neg c1
    rw [e1, decide_eq_false (by omega), cond_false]
    have hl := sho_len (u, v, w, n) a b m
    obtain ⟨⟨g, ok⟩, hg⟩ : ∃ z, shoF (u, v, w, n) a b m = z := ⟨_, rfl⟩
    rw [hg] at hl
    have l1 : g.length ≤ 128 := hl
    have p1 : copy2G (a, b) = some (a, b) := if_pos ⟨by show a.length ≤ 2 ^ 40; omega, by show b.length ≤ 2 ^ 40; omega⟩
    have p3 : shoG ((u, v, w, n), (a, b), m) = some (g, ok) := (if_pos (by show b.length < 2 ^ 62; omega)).trans (congrArg some hg)
    have p4 : self2G ((a, b), (a, b)) = some true := if_pos ⟨rfl, by show a.length < 2 ^ 62; omega, by show b.length < 2 ^ 62; omega⟩
    have s1 : selfLG (g, g) = some true := if_pos ⟨rfl, by show g.length < 2 ^ 62; omega⟩
    have q0 : lawCG (u, v, w, n) = some (u, v, w, n) := rfl
    have d0 : decide (1 + (a.length : Int) + (b.length : Int) < 0) = false := decide_eq_false (by omega)
    have d1 : decide (1 + (g.length : Int) < 0) = false := decide_eq_false (by omega)
    have e1 := held_at9 (k := 1) (n := g.length) (by decide) (by decide) (by omega)
    simp only [p1, p3, p4, q0, Option.bind_some, sub_all, s1, Bool.not_true, cond_false, eq_not_self]
    refine (congrArg (fun z => Option.bind z _) (k_lawSho_1 (by omega) (by decide) (by decide))).trans ?_
    simp only [Option.bind_some]
    refine (congrArg (fun z => Option.bind z _) (k_lawSho_2 (by omega) (by omega) (by omega))).trans ?_
    simp only [Option.bind_some, d0, cond_false, sub_all, s1, Bool.not_true, eq_not_self]
    refine (congrArg (fun z => Option.bind z _) (k_lawSho_3 (by omega) (by decide) (by decide))).trans ?_
    simp only [Option.bind_some, sub_marks9, e1, d1, cond_false, eq_bne, p1, p3, q0, sub_all, s1, Bool.not_true, eq_not_self]
theorem s_lawSho : FTold Try.prog 11 yesHS := walkedF (fs := fs) (ss := ss_lawSho) (loop := loops_lawSho) tysOk mixed fnsOk ssOk_lawSho 10 11 [lawD, PD, I64] [.bool] rfl _ fun ((u, v, w, n), (a, b), m) r h => (t_lawSho u v w n a b m).trans (p_lawSho u v w n a b m r h)
open Go.RowKit Go.ChangeShapes Go.WideShapes Go.ChangeAt
set_option maxRecDepth 100000 in
theorem lifted_lawSho (os : Os) (started : os.Started) (H : Type) (enc : TypeId × Value → H) :
    ReturnsInHanded {} Try.checked os 11 .any (Rows.fnExactSharesOfSpec.pre6 enc Try.prog Try.f11 Rows.fnExactSharesOfRow.domain false) (Rows.fnExactSharesOfSpec.post enc Try.prog Try.f11 false true false false) := by
  refine returnsInHanded_of_change (C := Try.checked) own started (by kernel_rfl) Try.func11
    (ChangeSpec.witness6 (enc := enc) (C := Try.checked) false ⟨#[], #[.agg #[.float .f32 0, .float .f32 0, .float .f32 0, .int .i64 0], .agg #[.slice none 0 0, .slice none 0 0], .int .i64 0], []⟩ 8 (by kernel_rfl) (by kernel_rfl) (by kernel_rfl) (by kernel_rfl)) ?_
  intro W base args ds gs before hval hW _ _
  exact law_post (P := Try.prog) (fn := Try.f11) (s := Rows.fnExactSharesOfSpec) laidOut s_lawSho.out Try.func11 rfl (by kernel_rfl) (by kernel_rfl) (by kernel_rfl) rfl Try.underlying4 rfl (fun ds h => by
    match ds, h with
    | [d0, d1, d2], _ => exact ⟨rfl, rfl, rfl⟩) (fun (_, (a, b), _) hw => by
      obtain ⟨_, ⟨h1, h2⟩, _⟩ := hw
      exact if_pos ⟨h1.1, h2.1⟩) W base args ds gs before hval hW

theorem over11 : Rows.FnExactSharesOfSaid :=
  OpenClaim.holds_of_wide 11 Try.f11 rfl rfl rfl rfl rfl rfl rfl ⟨rfl, rfl, rfl, rfl, rfl⟩ rfl rfl rfl rfl rfl (by kernel_rfl) Try.func11 (by kernel_rfl)
    (of_decide_eq_true (by kernel_rfl)) (by unfold Func.isWrapper; first | (rw [if_pos (by decide +kernel)]; kernel_rfl) | (rw [if_neg (by decide +kernel)]; exact ⟨rfl, rfl⟩))
    (fun os started H enc _ => lifted_lawSho os started H enc)
end Go.Proofs.Ytdlcebiglolfjaa
