/- The program's SlowestStart answers as the reference's does, at all arguments. No condition. -/
import Derived.Test.YtdlcebiglolfjaaK22
namespace Go.Proofs.Ytdlcebiglolfjaa
open Go.Ab
def aboveB (x : Fl .f32) : Bool := fin x && fgt x (Fl.of .f32 0)
def aboveG (x : Fl .f32) : Option Bool := some (aboveB x)
def aboveS : FSpec := ⟨[F32], [.bool], aboveG⟩
def loops_above (_ _ _ : Nat) : Option LSpec := none
noncomputable def ss_above : List (Nat × FSpec) := [(81, finS)]
theorem ssOk_above : FTolds Try.prog ss_above := ⟨s_l01Finite, trivial⟩
noncomputable def Γ_above : Ctx := ctxOf Try.prog tys fs ss_above loops_above
noncomputable def d_above (x : Fl .f32) : Option (Bool) := Option.bind (finG x) fun (r0 : Bool) => (bif r0 then (some (fgt x (Fl.of .f32 0))) else (some (false)))
theorem t_above (x : Fl .f32) : (fnT Γ_above 10 88 [F32] [.bool] x).den = d_above x := by kernel_rfl
theorem p_above (x : Fl .f32) (r : Bool) (h : aboveG x = some r) : d_above x = some r := by
  refine Eq.trans ?_ h
  unfold d_above aboveG aboveB finG
  cases fin x <;> rfl
theorem s_above : FTold Try.prog 88 aboveS := walkedF (fs := fs) (ss := ss_above) (loop := loops_above) tysOk mixed fnsOk ssOk_above 10 88 [F32] [.bool] rfl _ fun x r h => (t_above x).trans (p_above x r h)
def loops_aLen (_ _ _ : Nat) : Option LSpec := none
noncomputable def ss_aLen : List (Nat × FSpec) := [(73, finS)]
theorem ssOk_aLen : FTolds Try.prog ss_aLen := ⟨s_IsFinite, trivial⟩
noncomputable def Γ_aLen : Ctx := ctxOf Try.prog tys fs ss_aLen loops_aLen
noncomputable def d_aLen (x : Fl .f32) : Option (Bool) := Option.bind (finG x) fun (r0 : Bool) => (bif r0 then (some (fgt x (Fl.of .f32 0))) else (some (false)))
theorem t_aLen (x : Fl .f32) : (fnT Γ_aLen 10 91 [F32] [.bool] x).den = d_aLen x := by kernel_rfl
theorem p_aLen (x : Fl .f32) (r : Bool) (h : aboveG x = some r) : d_aLen x = some r := by
  refine Eq.trans ?_ h
  unfold d_aLen aboveG aboveB finG
  cases fin x <;> rfl
theorem s_aLen : FTold Try.prog 91 aboveS := walkedF (fs := fs) (ss := ss_aLen) (loop := loops_aLen) tysOk mixed fnsOk ssOk_aLen 10 91 [F32] [.bool] rfl _ fun x r h => (t_aLen x).trans (p_aLen x r h)
def ccF (p : Fl .f32 × Fl .f32) : Fl .f32 := fmul (Fl.of .f32 1056964608) (fadd p.1 p.2)
noncomputable def fineB (x : LT) (s u v c : Fl .f32) : Bool := (shoF x [Fl.of .f32 0, c] [u, v] 17).2 && fle ((shoF x [Fl.of .f32 0, c] [u, v] 17).1.getD 16 dN) s
noncomputable def slN (x : LT) (s u v w : Fl .f32) : Nat → Fl .f32 × Fl .f32
  | 0 => (Fl.of .f32 0, w)
  | i + 1 => if fineB x s u v (ccF (slN x s u v w i)) = true then (ccF (slN x s u v w i), (slN x s u v w i).2) else ((slN x s u v w i).1, ccF (slN x s u v w i))
noncomputable def sloF (x : LT) (s u v w : Fl .f32) : Fl .f32 × Bool := if okL x = true ∧ shB s = true ∧ fin u = true ∧ fin v = true ∧ aboveB w = true then ((slN x s u v w 20).1, true) else (Fl.of .f32 0, false)
noncomputable def sloG (x : LT × Fl .f32 × Fl .f32 × Fl .f32 × Fl .f32) : Option (Fl .f32 × Bool) := some (sloF x.1 x.2.1 x.2.2.1 x.2.2.2.1 x.2.2.2.2)
noncomputable def sloS : FSpec := ⟨[lawD, F32, F32, F32, F32], [F32, .bool], sloG⟩
theorem slo_no {x : LT} {s u v w : Fl .f32} (h : ¬ (okL x = true ∧ shB s = true ∧ fin u = true ∧ fin v = true ∧ aboveB w = true)) : sloF x s u v w = (Fl.of .f32 0, false) := if_neg h
theorem slo_yes {x : LT} {s u v w : Fl .f32} (h : okL x = true ∧ shB s = true ∧ fin u = true ∧ fin v = true ∧ aboveB w = true) : sloF x s u v w = ((slN x s u v w 20).1, true) := if_pos h
theorem fine_ok {x : LT} {s u v c : Fl .f32} (h : fineB x s u v c = true) : shoOk x [Fl.of .f32 0, c] [u, v] 17 := by
  unfold fineB at h
  by_cases hq : shoOk x [Fl.of .f32 0, c] [u, v] 17
  · exact hq
  · rw [sho_no hq] at h; cases h
theorem fine_c {x : LT} {s u v c : Fl .f32} (h : fineB x s u v c = true) : fin c = true ∧ fgt c (Fl.of .f32 0) = true := by
  obtain ⟨_, _, _, _, v5⟩ := vp_of (fine_ok h).2.1
  have := v5 1 (by show 1 < 2; decide)
  exact ⟨this.1, this.2.2 (by decide)⟩
theorem fine_no {x : LT} {s u v c : Fl .f32} (h : ¬ shoOk x [Fl.of .f32 0, c] [u, v] 17) : fineB x s u v c = false := by
  unfold fineB; rw [sho_no h]; rfl
theorem fine_yes {x : LT} {s u v c : Fl .f32} (h : shoOk x [Fl.of .f32 0, c] [u, v] 17) : fineB x s u v c = fle (shN x (mapR (smT [Fl.of .f32 0, c] 17) 17) (mapR (smV [Fl.of .f32 0, c] [u, v] 17) 17) 16) s := by
  unfold fineB
  rw [sho_yes h]
  simp only [Bool.true_and]
  rw [show (17 : Int).toNat = 17 from rfl, mapR_get _ _ (show 16 < 17 by decide)]
theorem sl_fin (x : LT) (s u v w : Fl .f32) : ∀ i, fin (slN x s u v w i).1 = true
  | 0 => zero32.1
  | i + 1 => by
    unfold slN
    split
    · rename_i h; exact (fine_c h).1
    · exact sl_fin x s u v w i
def L_SloS_1 : LSpec := ⟨[1, 2, 3, 5, 12, 13, 14], ⟨Shs.at 82 [(1, (.flt FloatKind.f32)), (2, (.flt FloatKind.f32)), (3, (.flt FloatKind.f32)), (5, (.ptr 2146435456 0 0)), (12, (.flt FloatKind.f32)), (13, (.flt FloatKind.f32)), (14, (.int IntKind.i64))], [(2146435456, (.vals true (.cons (.flt FloatKind.f32) (.cons (.flt FloatKind.f32) (.cons (.flt FloatKind.f32) (.cons (.int IntKind.i64) .nil))))))]⟩, [⟨.ext 0, [12], ⟨Shs.at 82 [(12, (.flt FloatKind.f32))], []⟩⟩], fun _ => bigN⟩
def loops_SloS (f k n : Nat) : Option LSpec := bif (Nat.beq f 38 && Nat.beq k 6 && Nat.beq n 1) then some L_SloS_1 else none
abbrev S_SloS_1 : Type := (((Fl .f32) × ((Fl .f32) × ((Fl .f32) × ((Fl .f32) × ((Fl .f32) × (Int × Unit)))))) × (((Fl .f32) × ((Fl .f32) × ((Fl .f32) × (Int × Unit)))) × Unit))
abbrev R_SloS_1 : Type := (((Fl .f32) × Unit) × Unit)
noncomputable def B_SloS_1 (y : S_SloS_1) : Option (S_SloS_1 ⊕ R_SloS_1) := bif decide (y.1.2.2.2.2.2.1 < 20) then (Option.bind (vpPG (sub [Fl.of .f32 0, fmul (Fl.of .f32 1056964608) (fadd y.1.2.2.2.1 y.1.2.2.2.2.1)] 0 2, sub [y.1.2.1, y.1.2.2.1] 0 2)) fun (r6 : Bool) => (bif r6 then (Option.bind (samPG ((sub [Fl.of .f32 0, fmul (Fl.of .f32 1056964608) (fadd y.1.2.2.2.1 y.1.2.2.2.2.1)] 0 2, sub [y.1.2.1, y.1.2.2.1] 0 2), 17)) fun (r7 : ((List (Fl .f32)) × ((List (Fl .f32)) × Bool))) => (bif r7.2.2 then (Option.bind (meansG (sub r7.2.1 0 (List.length r7.2.1))) fun (r8 : Bool) => (bif r8 then (Option.bind (shsG ((y.2.1.1, y.2.1.2.1, y.2.1.2.2.1, y.2.1.2.2.2.1), sub r7.1 0 (List.length r7.1), sub r7.2.1 0 (List.length r7.2.1))) fun (r9 : (List (Fl .f32))) => (bif inB 16 (List.length r9) then (bif fle (List.getD r9 (0 + Int.toNat 16) dN) y.1.1 then (some (Sum.inl (((y.1.1, (y.1.2.1, (y.1.2.2.1, (fmul (Fl.of .f32 1056964608) (fadd y.1.2.2.2.1 y.1.2.2.2.2.1), (y.1.2.2.2.2.1, (IntKind.i64.wrap (y.1.2.2.2.2.2.1 + 1), ())))))), ((y.2.1.1, (y.2.1.2.1, (y.2.1.2.2.1, (y.2.1.2.2.2.1, ())))), ()))))) else (some (Sum.inl (((y.1.1, (y.1.2.1, (y.1.2.2.1, (y.1.2.2.2.1, (fmul (Fl.of .f32 1056964608) (fadd y.1.2.2.2.1 y.1.2.2.2.2.1), (IntKind.i64.wrap (y.1.2.2.2.2.2.1 + 1), ())))))), ((y.2.1.1, (y.2.1.2.1, (y.2.1.2.2.1, (y.2.1.2.2.2.1, ())))), ())))))) else (none))) else (some (Sum.inl (((y.1.1, (y.1.2.1, (y.1.2.2.1, (y.1.2.2.2.1, (fmul (Fl.of .f32 1056964608) (fadd y.1.2.2.2.1 y.1.2.2.2.2.1), (IntKind.i64.wrap (y.1.2.2.2.2.2.1 + 1), ())))))), ((y.2.1.1, (y.2.1.2.1, (y.2.1.2.2.1, (y.2.1.2.2.2.1, ())))), ()))))))) else (some (Sum.inl (((y.1.1, (y.1.2.1, (y.1.2.2.1, (y.1.2.2.2.1, (fmul (Fl.of .f32 1056964608) (fadd y.1.2.2.2.1 y.1.2.2.2.2.1), (IntKind.i64.wrap (y.1.2.2.2.2.2.1 + 1), ())))))), ((y.2.1.1, (y.2.1.2.1, (y.2.1.2.2.1, (y.2.1.2.2.2.1, ())))), ()))))))) else (some (Sum.inl (((y.1.1, (y.1.2.1, (y.1.2.2.1, (y.1.2.2.2.1, (fmul (Fl.of .f32 1056964608) (fadd y.1.2.2.2.1 y.1.2.2.2.2.1), (IntKind.i64.wrap (y.1.2.2.2.2.2.1 + 1), ())))))), ((y.2.1.1, (y.2.1.2.1, (y.2.1.2.2.1, (y.2.1.2.2.2.1, ())))), ()))))))) else (some (Sum.inr (((y.1.2.2.2.1, ()), ()))))
noncomputable def ss_SloS : List (Nat × FSpec) := [(80, okPS), (87, shS), (81, finS), (88, aboveS), (63, vpPS), (70, samPS), (89, meansS), (90, shsS)]
theorem ssOk_SloS : FTolds Try.prog ss_SloS := ⟨s_lawS, s_shareS, s_l01Finite, s_above, s_validS, s_samS, s_means, s_shs, trivial⟩
noncomputable def Γ_SloS : Ctx := ctxOf Try.prog tys fs ss_SloS loops_SloS
noncomputable def d_SloS (a b c : Fl .f32) (n : Int) (s u v w : Fl .f32) : Option (((Fl .f32) × Bool)) := Option.bind (okPG (a, b, c, n)) fun (r0 : Bool) => (bif !r0 then (some ((Fl.of .f32 0, false))) else (Option.bind (shG s) fun (r1 : Bool) => (bif !r1 then (some ((Fl.of .f32 0, false))) else (Option.bind (finG u) fun (r2 : Bool) => (bif !r2 then (some ((Fl.of .f32 0, false))) else (Option.bind (finG v) fun (r3 : Bool) => (bif !r3 then (some ((Fl.of .f32 0, false))) else (Option.bind (aboveG w) fun (r4 : Bool) => (bif !r4 then (some ((Fl.of .f32 0, false))) else (Option.bind (iter B_SloS_1 bigN (((s, (u, (v, (Fl.of .f32 0, (w, (0, ())))))), ((a, (b, (c, (n, ())))), ())))) fun (r5 : (((Fl .f32) × Unit) × Unit)) => (some ((r5.1.1, true)))))))))))))
theorem t_SloS (a b c : Fl .f32) (n : Int) (s u v w : Fl .f32) : (fnT Γ_SloS 10 38 [lawD, F32, F32, F32, F32] [F32, .bool] ((a, b, c, n), s, u, v, w)).den = d_SloS a b c n s u v w := by kernel_rfl
theorem p_SloS (a b c : Fl .f32) (n : Int) (s u v w : Fl .f32) (r : ((Fl .f32) × Bool)) (h : sloG ((a, b, c, n), s, u, v, w) = some r) : d_SloS a b c n s u v w = some r := by
  refine Eq.trans ?_ h
  unfold d_SloS sloG okPG shG finG aboveG
  simp only [Option.bind_some]
  cases h1 : okL (a, b, c, n) with
  | false => rw [slo_no fun k => by have := k.1; rw [h1] at this; cases this]; rfl
  | true =>
  cases h2 : shB s with
  | false => rw [slo_no fun k => by have := k.2.1; rw [h2] at this; cases this]; rfl
  | true =>
  cases h3 : fin u with
  | false => rw [slo_no fun k => by have := k.2.2.1; rw [h3] at this; cases this]; rfl
  | true =>
  cases h4 : fin v with
  | false => rw [slo_no fun k => by have := k.2.2.2.1; rw [h4] at this; cases this]; rfl
  | true =>
  cases h5 : aboveB w with
  | false => rw [slo_no fun k => by have := k.2.2.2.2; rw [h5] at this; cases this]; rfl
  | true =>
  simp only [Bool.not_true, cond_false]
  have key := iter_for (B := B_SloS_1) (fun i => ((s, (u, (v, ((slN (a, b, c, n) s u v w i).1, ((slN (a, b, c, n) s u v w i).2, ((i : Int), ())))))), ((a, (b, (c, (n, ())))), ()))) 0 20 (((slN (a, b, c, n) s u v w 20).1, ()), ()) (Nat.zero_le _) (by decide) (fun i _ hi => by
    have k0 : ∀ z, vpPG ([Fl.of .f32 0, z], [u, v]) = some (vp [Fl.of .f32 0, z] [u, v]) := fun z => if_pos (by show [u, v].length < 2 ^ 62; simp)
    have hlt : decide ((i : Int) < 20) = true := decide_eq_true (by omega)
    have e1 : sub [u, v] 0 2 = [u, v] := rfl
    have e2 : ∀ z, sub [Fl.of .f32 0, z] 0 2 = [Fl.of .f32 0, z] := fun _ => rfl
    have e3 : fmul (Fl.of .f32 1056964608) (fadd (slN (a, b, c, n) s u v w i).1 (slN (a, b, c, n) s u v w i).2) = ccF (slN (a, b, c, n) s u v w i) := rfl
    unfold B_SloS_1
    simp only [hlt, cond_true, e1, e2, e3, k0, Option.bind_some, inc64 (show i < 20 from hi) (show (20 : Nat) < 2 ^ 62 by decide), slN]
    generalize slN (a, b, c, n) s u v w i = p
    generalize ccF p = z
    cases hv : vp [Fl.of .f32 0, z] [u, v] with
    | false => rw [fine_no fun k => by have := k.2.1; rw [hv] at this; cases this]; rfl
    | true =>
    have k1 : samPG (([Fl.of .f32 0, z], [u, v]), 17) = some (mapR (smT [Fl.of .f32 0, z] 17) 17, mapR (smV [Fl.of .f32 0, z] [u, v] 17) 17, smOk [Fl.of .f32 0, z] [u, v] 17) := if_pos ⟨hv, show (2 : Int) ≤ 17 by decide, show (17 : Int) ≤ 128 by decide⟩
    simp only [k1, Option.bind_some, cond_true, sub_mapR9, mapR_len]
    cases ho : smOk [Fl.of .f32 0, z] [u, v] 17 with
    | false => rw [fine_no fun k => by have := k.2.2.2.1; rw [ho] at this; cases this]; rfl
    | true =>
    have k2 : meansG (mapR (smV [Fl.of .f32 0, z] [u, v] 17) 17) = some (meansB (mapR (smV [Fl.of .f32 0, z] [u, v] 17) 17)) := if_pos (by show (mapR (smV [Fl.of .f32 0, z] [u, v] 17) 17).length ≤ 128; rw [mapR_len]; decide)
    simp only [k2, Option.bind_some, cond_true]
    cases hq : meansB (mapR (smV [Fl.of .f32 0, z] [u, v] 17) 17) with
    | false => rw [fine_no fun k => by have := k.2.2.2.2; rw [show (17 : Int).toNat = 17 from rfl, hq] at this; cases this]; rfl
    | true =>
    have ok : shoOk (a, b, c, n) [Fl.of .f32 0, z] [u, v] 17 := ⟨h1, hv, ⟨by decide, by decide⟩, ho, hq⟩
    have k3 : shsG ((a, b, c, n), mapR (smT [Fl.of .f32 0, z] 17) 17, mapR (smV [Fl.of .f32 0, z] [u, v] 17) 17) = some (mapR (shN (a, b, c, n) (mapR (smT [Fl.of .f32 0, z] 17) 17) (mapR (smV [Fl.of .f32 0, z] [u, v] 17) 17)) 17) := by
      have := shs_if (sho_shs ok)
      rw [mapR_len] at this
      exact this
    have e4 : inB 16 17 = true := by decide
    simp only [k3, Option.bind_some, cond_true, mapR_len, e4, show Int.toNat 16 = 16 from rfl, Nat.zero_add, mapR_get _ _ (show 16 < 17 by decide), fine_yes ok]
    cases fle (shN (a, b, c, n) (mapR (smT [Fl.of .f32 0, z] 17) 17) (mapR (smV [Fl.of .f32 0, z] [u, v] 17) 17) 16) s <;> rfl) (by
    unfold B_SloS_1
    rfl)
  rw [slo_yes ⟨h1, h2, h3, h4, h5⟩]
  exact congrArg (fun z => Option.bind z _) (show iter B_SloS_1 bigN _ = _ from key)
theorem s_SloS : FTold Try.prog 38 sloS := walkedF (fs := fs) (ss := ss_SloS) (loop := loops_SloS) tysOk mixed fnsOk ssOk_SloS 10 38 [lawD, F32, F32, F32, F32] [F32, .bool] rfl _ fun ((a, b, c, n), s, u, v, w) r h => (t_SloS a b c n s u v w).trans (p_SloS a b c n s u v w r h)
def L_SloI_1 : LSpec := ⟨[1, 2, 3, 5, 12, 13, 38], ⟨Shs.at 74 [(1, (.flt FloatKind.f32)), (2, (.flt FloatKind.f32)), (3, (.flt FloatKind.f32)), (5, (.ptr 2146435392 0 0)), (12, (.flt FloatKind.f32)), (13, (.flt FloatKind.f32)), (38, (.int IntKind.i64))], [(2146435392, (.vals true (.cons (.flt FloatKind.f32) (.cons (.flt FloatKind.f32) (.cons (.flt FloatKind.f32) (.cons (.int IntKind.i64) .nil))))))]⟩, [⟨.ext 0, [12], ⟨Shs.at 74 [(12, (.flt FloatKind.f32))], []⟩⟩], fun _ => bigN⟩
def loops_SloI (f k n : Nat) : Option LSpec := bif (Nat.beq f 39 && Nat.beq k 5 && Nat.beq n 1) then some L_SloI_1 else none
abbrev S_SloI_1 : Type := (((Fl .f32) × ((Fl .f32) × ((Fl .f32) × ((Fl .f32) × ((Fl .f32) × (Int × Unit)))))) × (((Fl .f32) × ((Fl .f32) × ((Fl .f32) × (Int × Unit)))) × Unit))
abbrev R_SloI_1 : Type := (((Fl .f32) × Unit) × Unit)
noncomputable def B_SloI_1 (y : S_SloI_1) : Option (S_SloI_1 ⊕ R_SloI_1) := bif decide (y.1.2.2.2.2.2.1 < 20) then (Option.bind (shoG ((y.2.1.1, y.2.1.2.1, y.2.1.2.2.1, y.2.1.2.2.2.1), (sub [Fl.of .f32 0, fmul (Fl.of .f32 1056964608) (fadd y.1.2.2.2.1 y.1.2.2.2.2.1)] 0 2, sub [y.1.2.1, y.1.2.2.1] 0 2), 17)) fun (r5 : ((List (Fl .f32)) × Bool)) => (bif fgt (fmul (Fl.of .f32 1056964608) (fadd y.1.2.2.2.1 y.1.2.2.2.2.1)) (Fl.of .f32 0) then (bif r5.2 then (bif inB 16 (List.length r5.1) then (bif fle (List.getD r5.1 (0 + Int.toNat 16) dN) y.1.1 then (some (Sum.inl (((y.1.1, (y.1.2.1, (y.1.2.2.1, (fmul (Fl.of .f32 1056964608) (fadd y.1.2.2.2.1 y.1.2.2.2.2.1), (y.1.2.2.2.2.1, (IntKind.i64.wrap (y.1.2.2.2.2.2.1 + 1), ())))))), ((y.2.1.1, (y.2.1.2.1, (y.2.1.2.2.1, (y.2.1.2.2.2.1, ())))), ()))))) else (some (Sum.inl (((y.1.1, (y.1.2.1, (y.1.2.2.1, (y.1.2.2.2.1, (fmul (Fl.of .f32 1056964608) (fadd y.1.2.2.2.1 y.1.2.2.2.2.1), (IntKind.i64.wrap (y.1.2.2.2.2.2.1 + 1), ())))))), ((y.2.1.1, (y.2.1.2.1, (y.2.1.2.2.1, (y.2.1.2.2.2.1, ())))), ())))))) else (none)) else (some (Sum.inl (((y.1.1, (y.1.2.1, (y.1.2.2.1, (y.1.2.2.2.1, (fmul (Fl.of .f32 1056964608) (fadd y.1.2.2.2.1 y.1.2.2.2.2.1), (IntKind.i64.wrap (y.1.2.2.2.2.2.1 + 1), ())))))), ((y.2.1.1, (y.2.1.2.1, (y.2.1.2.2.1, (y.2.1.2.2.2.1, ())))), ())))))) else (some (Sum.inl (((y.1.1, (y.1.2.1, (y.1.2.2.1, (y.1.2.2.2.1, (fmul (Fl.of .f32 1056964608) (fadd y.1.2.2.2.1 y.1.2.2.2.2.1), (IntKind.i64.wrap (y.1.2.2.2.2.2.1 + 1), ())))))), ((y.2.1.1, (y.2.1.2.1, (y.2.1.2.2.1, (y.2.1.2.2.2.1, ())))), ()))))))) else (some (Sum.inr (((y.1.2.2.2.1, ()), ()))))
noncomputable def ss_SloI : List (Nat × FSpec) := [(75, okLS), (76, shS), (84, allFinS), (91, aboveS), (46, shoS), (92, toldS)]
theorem ssOk_SloI : FTolds Try.prog ss_SloI := ⟨s_lawI, s_shareI, s_areFinite, s_aLen, s_ShoI, s_told, trivial⟩
noncomputable def Γ_SloI : Ctx := ctxOf Try.prog tys fs ss_SloI loops_SloI
noncomputable def d_SloI (a b c : Fl .f32) (n : Int) (s u v w : Fl .f32) : Option (((Fl .f32) × Bool)) := Option.bind (okLG (a, b, c, n)) fun (r0 : Bool) => (bif !r0 then (some ((Fl.of .f32 0, false))) else (Option.bind (shG s) fun (r1 : Bool) => (bif !r1 then (some ((Fl.of .f32 0, false))) else (Option.bind (allFinG (sub [u, v] 0 2)) fun (r2 : Bool) => (bif !r2 then (some ((Fl.of .f32 0, false))) else (Option.bind (aboveG w) fun (r3 : Bool) => (bif !r3 then (some ((Fl.of .f32 0, false))) else (Option.bind (iter B_SloI_1 bigN (((s, (u, (v, (Fl.of .f32 0, (w, (0, ())))))), ((a, (b, (c, (n, ())))), ())))) fun (r4 : (((Fl .f32) × Unit) × Unit)) => (Option.bind (toldG r4.1.1) fun (r6 : ((Fl .f32) × Bool)) => (some ((r6.1, r6.2))))))))))))
theorem t_SloI (a b c : Fl .f32) (n : Int) (s u v w : Fl .f32) : (fnT Γ_SloI 10 39 [lawD, F32, F32, F32, F32] [F32, .bool] ((a, b, c, n), s, u, v, w)).den = d_SloI a b c n s u v w := by kernel_rfl
theorem p_SloI (a b c : Fl .f32) (n : Int) (s u v w : Fl .f32) (r : ((Fl .f32) × Bool)) (h : sloG ((a, b, c, n), s, u, v, w) = some r) : d_SloI a b c n s u v w = some r := by
  refine Eq.trans ?_ h
  have q0 : allFinG (sub [u, v] 0 2) = some (fin u && (fin v && true)) := (if_pos (show [u, v].length < 2 ^ 62 by simp)).trans rfl
  unfold d_SloI sloG okLG shG aboveG
  simp only [Option.bind_some, q0]
  cases h1 : okL (a, b, c, n) with
  | false => rw [slo_no fun k => by have := k.1; rw [h1] at this; cases this]; rfl
  | true =>
  cases h2 : shB s with
  | false => rw [slo_no fun k => by have := k.2.1; rw [h2] at this; cases this]; rfl
  | true =>
  cases h3 : fin u with
  | false => rw [slo_no fun k => by have := k.2.2.1; rw [h3] at this; cases this]; rfl
  | true =>
  cases h4 : fin v with
  | false => rw [slo_no fun k => by have := k.2.2.2.1; rw [h4] at this; cases this]; rfl
  | true =>
  cases h5 : aboveB w with
  | false => rw [slo_no fun k => by have := k.2.2.2.2; rw [h5] at this; cases this]; rfl
  | true =>
  simp only [Bool.not_true, cond_false, Bool.and_self]
  have key := iter_for (B := B_SloI_1) (fun i => ((s, (u, (v, ((slN (a, b, c, n) s u v w i).1, ((slN (a, b, c, n) s u v w i).2, ((i : Int), ())))))), ((a, (b, (c, (n, ())))), ()))) 0 20 (((slN (a, b, c, n) s u v w 20).1, ()), ()) (Nat.zero_le _) (by decide) (fun i _ hi => by
    have k0 : ∀ z, shoG ((a, b, c, n), ([Fl.of .f32 0, z], [u, v]), 17) = some (shoF (a, b, c, n) [Fl.of .f32 0, z] [u, v] 17) := fun z => if_pos (by show [u, v].length < 2 ^ 62; simp)
    have hlt : decide ((i : Int) < 20) = true := decide_eq_true (by omega)
    have e1 : sub [u, v] 0 2 = [u, v] := rfl
    have e2 : ∀ z, sub [Fl.of .f32 0, z] 0 2 = [Fl.of .f32 0, z] := fun _ => rfl
    have e3 : fmul (Fl.of .f32 1056964608) (fadd (slN (a, b, c, n) s u v w i).1 (slN (a, b, c, n) s u v w i).2) = ccF (slN (a, b, c, n) s u v w i) := rfl
    unfold B_SloI_1
    simp only [hlt, cond_true, e1, e2, e3, k0, Option.bind_some, inc64 (show i < 20 from hi) (show (20 : Nat) < 2 ^ 62 by decide), slN]
    generalize slN (a, b, c, n) s u v w i = p
    generalize ccF p = z
    by_cases ok : shoOk (a, b, c, n) [Fl.of .f32 0, z] [u, v] 17
    · have hc : fgt z (Fl.of .f32 0) = true := by
        obtain ⟨_, _, _, _, v5⟩ := vp_of ok.2.1
        exact (v5 1 (by show 1 < 2; decide)).2.2 (by decide)
      have hs : shoF (a, b, c, n) [Fl.of .f32 0, z] [u, v] 17 = (mapR (shN (a, b, c, n) (mapR (smT [Fl.of .f32 0, z] 17) 17) (mapR (smV [Fl.of .f32 0, z] [u, v] 17) 17)) 17, true) := sho_yes ok
      have e4 : inB 16 17 = true := by decide
      rw [hs, hc, fine_yes ok]
      simp only [cond_true, mapR_len, e4, show Int.toNat 16 = 16 from rfl, Nat.zero_add, mapR_get _ _ (show 16 < 17 by decide)]
      cases fle (shN (a, b, c, n) (mapR (smT [Fl.of .f32 0, z] 17) 17) (mapR (smV [Fl.of .f32 0, z] [u, v] 17) 17) 16) s <;> rfl
    · rw [sho_no ok, fine_no ok]
      cases fgt z (Fl.of .f32 0) <;> rfl) (by
    unfold B_SloI_1
    rfl)
  rw [slo_yes ⟨h1, h2, h3, h4, h5⟩]
  refine (congrArg (fun z => Option.bind z _) (show iter B_SloI_1 bigN _ = _ from key)).trans ?_
  simp only [Option.bind_some]
  have e : toldG (slN (a, b, c, n) s u v w 20).1 = some ((slN (a, b, c, n) s u v w 20).1, true) := by
    unfold toldG; rw [if_pos (sl_fin _ _ _ _ _ _)]
  rw [e]; rfl
theorem s_SloI : FTold Try.prog 39 sloS := walkedF (fs := fs) (ss := ss_SloI) (loop := loops_SloI) tysOk mixed fnsOk ssOk_SloI 10 39 [lawD, F32, F32, F32, F32] [F32, .bool] rfl _ fun ((a, b, c, n), s, u, v, w) r h => (t_SloI a b c n s u v w).trans (p_SloI a b c n s u v w r h)
def yesZG (_ : LT × Fl .f32 × Fl .f32 × Fl .f32 × Fl .f32) : Option Bool := some true
def yesZS : FSpec := ⟨[lawD, F32, F32, F32, F32], [.bool], yesZG⟩
def loops_lawSlo (_ _ _ : Nat) : Option LSpec := none
noncomputable def ss_lawSlo : List (Nat × FSpec) := [(30, lawCS), (38, sloS), (39, sloS), (35, selfFS)]
theorem ssOk_lawSlo : FTolds Try.prog ss_lawSlo := ⟨s_toLaw, s_SloS, s_SloI, s_sameFloat, trivial⟩
noncomputable def Γ_lawSlo : Ctx := ctxOf Try.prog tys fs ss_lawSlo loops_lawSlo
noncomputable def d_lawSlo (a b c : Fl .f32) (n : Int) (s u v w : Fl .f32) : Option (Bool) := Option.bind (lawCG (a, b, c, n)) fun (r0 : ((Fl .f32) × ((Fl .f32) × ((Fl .f32) × Int)))) => (Option.bind (sloG ((r0.1, r0.2.1, r0.2.2.1, r0.2.2.2), s, u, v, w)) fun (r1 : ((Fl .f32) × Bool)) => (Option.bind (lawCG (a, b, c, n)) fun (r2 : ((Fl .f32) × ((Fl .f32) × ((Fl .f32) × Int)))) => (Option.bind (sloG ((r2.1, r2.2.1, r2.2.2.1, r2.2.2.2), s, u, v, w)) fun (r3 : ((Fl .f32) × Bool)) => (Option.bind (selfFG (fwide r3.1, fwide r1.1)) fun (r4 : Bool) => (bif !r4 then (some (false)) else (bif !r3.2 == r1.2 then (some (false)) else (some (true))))))))
theorem t_lawSlo (a b c : Fl .f32) (n : Int) (s u v w : Fl .f32) : (fnT Γ_lawSlo 10 9 [lawD, F32, F32, F32, F32] [.bool] ((a, b, c, n), s, u, v, w)).den = d_lawSlo a b c n s u v w := by kernel_rfl
theorem p_lawSlo (a b c : Fl .f32) (n : Int) (s u v w : Fl .f32) (r : Bool) (h : yesZG ((a, b, c, n), s, u, v, w) = some r) : d_lawSlo a b c n s u v w = some r := by
  cases h
  have p5 : ∀ z, selfFG (z, z) = some true := fun z => if_pos rfl
  unfold d_lawSlo lawCG sloG
  simp only [Option.bind_some, p5, Bool.not_true, cond_false, eq_not_self]
theorem s_lawSlo : FTold Try.prog 9 yesZS := walkedF (fs := fs) (ss := ss_lawSlo) (loop := loops_lawSlo) tysOk mixed fnsOk ssOk_lawSlo 10 9 [lawD, F32, F32, F32, F32] [.bool] rfl _ fun ((a, b, c, n), s, u, v, w) r h => (t_lawSlo a b c n s u v w).trans (p_lawSlo a b c n s u v w r h)
open Go.RowKit Go.ChangeShapes Go.WideShapes Go.ChangeAt
set_option maxRecDepth 100000 in
theorem lifted_lawSlo (os : Os) (started : os.Started) (H : Type) (enc : TypeId × Value → H) :
    ReturnsInHanded {} Try.checked os 9 .any (Rows.fnExactSlowestStartSpec.pre6 enc Try.prog Try.f9 Rows.fnExactSlowestStartRow.domain false) (Rows.fnExactSlowestStartSpec.post enc Try.prog Try.f9 false true false false) := by
  refine returnsInHanded_of_change (C := Try.checked) own started (by kernel_rfl) Try.func9
    (ChangeSpec.witness6 (enc := enc) (C := Try.checked) false ⟨#[], #[.agg #[.float .f32 0, .float .f32 0, .float .f32 0, .int .i64 0], .float .f32 0, .float .f32 0, .float .f32 0, .float .f32 0], []⟩ 8 (by kernel_rfl) (by kernel_rfl) (by kernel_rfl) (by kernel_rfl)) ?_
  intro W base args ds gs before hval hW _ _
  exact law_post (P := Try.prog) (fn := Try.f9) (s := Rows.fnExactSlowestStartSpec) laidOut s_lawSlo.out Try.func9 rfl (by kernel_rfl) (by kernel_rfl) (by kernel_rfl) rfl Try.underlying4 rfl (fun ds h => by
    match ds, h with
    | [d0, d1, d2, d3, d4], _ => exact ⟨rfl, rfl, rfl⟩) (fun _ _ => rfl) W base args ds gs before hval hW

theorem over9 : Rows.FnExactSlowestStartSaid :=
  OpenClaim.holds_of_wide 9 Try.f9 rfl rfl rfl rfl rfl rfl rfl ⟨rfl, rfl, rfl, rfl, rfl⟩ rfl rfl rfl rfl rfl (by kernel_rfl) Try.func9 (by kernel_rfl)
    (of_decide_eq_true (by kernel_rfl)) (by unfold Func.isWrapper; first | (rw [if_pos (by decide +kernel)]; kernel_rfl) | (rw [if_neg (by decide +kernel)]; exact ⟨rfl, rfl⟩))
    (fun os started H enc _ => lifted_lawSlo os started H enc)
end Go.Proofs.Ytdlcebiglolfjaa
