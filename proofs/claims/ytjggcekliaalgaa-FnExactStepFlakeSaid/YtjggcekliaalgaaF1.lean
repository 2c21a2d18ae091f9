/- Flakes: valid ones. No condition. -/
import Derived.Test.YtjggcekliaalgaaH1
namespace Go.Proofs.Ytjggcekliaalgaa
open Go.Ab
abbrev FlD : DS := .agg [I64, L32]
abbrev FlT : Type := Int × LS
theorem prod_in {p q : Int} (h : (1 ≤ p ∧ p ≤ 16) ∧ 1 ≤ q ∧ q ≤ 16) : IntKind.i64.wrap (p * q) = p * q := by
  have a : 0 ≤ p * q := Int.mul_nonneg (by omega) (by omega)
  have b : p * q ≤ 16 * q := Int.mul_le_mul_of_nonneg_right (by omega) (by omega)
  exact wrap64 (by omega) (by omega)
def vkP (x : FlT) : Prop := (3 ≤ x.1 ∧ x.1 ≤ 16) ∧ (x.2.length : Int) = x.1 * x.1 ∧ x.2.all fin = true
open Classical in
noncomputable def vkG (x : FlT) : Option Bool := if x.2.length < 2 ^ 62 then some (decide (vkP x)) else none
noncomputable def vkS : FSpec := ⟨[FlD], [.bool], vkG⟩
noncomputable def vkPG (x : FlT) : Option Bool := vkG x
noncomputable def vkPS : FSpec := ⟨[.ptr FlD], [.bool], vkPG⟩
open Classical in
theorem vk_some {x : FlT} {r : Bool} (h : vkG x = some r) : x.2.length < 2 ^ 62 ∧ (r = true ↔ vkP x) := by
  obtain ⟨h1, rfl⟩ := if_some (show (if x.2.length < 2 ^ 62 then some (decide (vkP x)) else none) = some r from h)
  exact ⟨h1, decide_eq_true_iff⟩
open Classical in
theorem vk_ex {x : FlT} (h : x.2.length < 2 ^ 62) : ∃ b, vkG x = some b ∧ (b = true ↔ vkP x) := ⟨_, if_pos h, decide_eq_true_iff⟩
theorem allf_yes {l : LS} (h : ∀ i, i < l.length → fin (l.getD i dN) = true) : l.all fin = true :=
  List.all_eq_true.2 fun x hx => by
    obtain ⟨j, hj, rfl⟩ := List.getElem_of_mem hx
    have := h j hj
    simpa [List.getD_eq_getElem?_getD, hj] using this
theorem allf_no {l : LS} {i : Nat} (hi : i < l.length) (h : fin (l.getD i dN) = false) : l.all fin = false := by
  rw [List.all_eq_false]
  refine ⟨l[i], List.getElem_mem _, ?_⟩
  simpa [List.getD_eq_getElem?_getD, hi] using h
def loops_VKI (_ _ _ : Nat) : Option LSpec := none
noncomputable def ss_VKI : List (Nat × FSpec) := [(84, withinS), (112, allFinS)]
theorem ssOk_VKI : FTolds Try.prog ss_VKI := ⟨s_within, s_areFinite, trivial⟩
noncomputable def Γ_VKI : Ctx := ctxOf Try.prog tys fs ss_VKI loops_VKI
noncomputable def d_VKI (sd : Int) (sv : LS) : Option (Bool) := Option.bind (withinG (sd, 3, 16)) fun (r0 : Bool) => (bif r0 then (bif ((List.length sv : Nat) : Int) == IntKind.i64.wrap (sd * sd) then (Option.bind (allFinG (sub sv 0 (List.length sv))) fun (r1 : Bool) => (some (r1))) else (some (false))) else (some (false)))
theorem t_VKI (sd : Int) (sv : LS) : (fnT Γ_VKI 10 111 [FlD] [.bool] (sd, sv)).den = d_VKI sd sv := by kernel_rfl
theorem p_VKI (sd : Int) (sv : LS) (r : Bool) (h : vkG (sd, sv) = some r) : d_VKI sd sv = some r := by
  obtain ⟨hb, hr⟩ := vk_some h
  have k2 : allFinG sv = some (sv.all fin) := if_pos hb
  unfold d_VKI withinG
  simp only [sub_all, k2, Option.bind_some]
  exact tree_iff (bif_iffd and2 (fun hs => by rw [prod_in ⟨⟨by omega, hs.2⟩, by omega, hs.2⟩]; exact bif_iff (beq_iff _ _) (end_iff Iff.rfl))) hr Iff.rfl
theorem s_VKI : FTold Try.prog 111 vkS := walkedF (fs := fs) (ss := ss_VKI) (loop := loops_VKI) tysOk mixed fnsOk ssOk_VKI 10 111 [FlD] [.bool] rfl _ fun (sd, sv) r h => (t_VKI sd sv).trans (p_VKI sd sv r h)
def L_VKS_1 : LSpec := ⟨[0, 3], ⟨Shs.at 45 [(0, (.ptr 2 0 0)), (3, (.int IntKind.i64))], [(2, (.vals false (.cons (.int IntKind.i64) (.cons (.slc 3) .nil)))), (3, (.arr false (EK.flt FloatKind.f32)))]⟩, [⟨.ret, [2], ⟨Shs.at 45 [(2, .bool)], [(2, (.vals false (.cons (.int IntKind.i64) (.cons (.slc 3) .nil)))), (3, (.arr false (EK.flt FloatKind.f32)))]⟩⟩, ⟨.ext 0, [], ⟨Shs.at 45 [], [(2, (.vals false (.cons (.int IntKind.i64) (.cons (.slc 3) .nil)))), (3, (.arr false (EK.flt FloatKind.f32)))]⟩⟩], fun _ => bigN⟩
def loops_VKS (f k n : Nat) : Option LSpec := bif (Nat.beq f 117 && Nat.beq k 4 && Nat.beq n 1) then some L_VKS_1 else none
abbrev S_VKS_1 : Type := ((Int × Unit) × ((Int × (Nat × Unit)) × ((List (Fl .f32)) × Unit)))
abbrev R_VKS_1 : Type := (((Bool × Unit) × ((Int × (Nat × Unit)) × ((List (Fl .f32)) × Unit))) ⊕ (Unit × ((Int × (Nat × Unit)) × ((List (Fl .f32)) × Unit))))
noncomputable def B_VKS_1 (y : S_VKS_1) : Option (S_VKS_1 ⊕ R_VKS_1) := bif decide (y.1.1 < (y.2.1.2.1 : Int)) then (bif inB y.1.1 y.2.1.2.1 then (Option.bind (finG (List.getD y.2.2.1 (0 + Int.toNat y.1.1) dN)) fun (r2 : Bool) => (bif !r2 then (some (Sum.inr (Sum.inl (((false, ()), ((y.2.1.1, (y.2.1.2.1, ())), (y.2.2.1, ()))))))) else (some (Sum.inl (((IntKind.i64.wrap (y.1.1 + 1), ()), ((y.2.1.1, (y.2.1.2.1, ())), (y.2.2.1, ())))))))) else (none)) else (some (Sum.inr (Sum.inr (((), ((y.2.1.1, (y.2.1.2.1, ())), (y.2.2.1, ())))))))
noncomputable def ss_VKS : List (Nat × FSpec) := [(77, withinS), (102, finS)]
theorem ssOk_VKS : FTolds Try.prog ss_VKS := ⟨s_l00In, s_l01Finite, trivial⟩
noncomputable def Γ_VKS : Ctx := ctxOf Try.prog tys fs ss_VKS loops_VKS
noncomputable def d_VKS (sd : Int) (sv : LS) : Option (Bool) := Option.bind (withinG (sd, 3, 16)) fun (r0 : Bool) => (bif !r0 then (some (false)) else (bif ((List.length sv : Nat) : Int) != IntKind.i64.wrap (sd * sd) then (some (false)) else (Option.bind (iter B_VKS_1 bigN (((0, ()), ((sd, (List.length sv, ())), (sv, ()))))) fun (r1 : (((Bool × Unit) × ((Int × (Nat × Unit)) × ((List (Fl .f32)) × Unit))) ⊕ (Unit × ((Int × (Nat × Unit)) × ((List (Fl .f32)) × Unit))))) => (match r1 with | .inl x3 => (some (x3.1.1)) | .inr x3 => (some (true))))))
theorem t_VKS (sd : Int) (sv : LS) : (fnT Γ_VKS 10 117 [.ptr FlD] [.bool] (sd, sv)).den = d_VKS sd sv := by kernel_rfl
theorem p_VKS (sd : Int) (sv : LS) (r : Bool) (h : vkPG (sd, sv) = some r) : d_VKS sd sv = some r := by
  obtain ⟨hb, hr⟩ := vk_some h
  unfold d_VKS withinG
  simp only [Option.bind_some]
  refine tree_iff (bifn_iffd and2 (fun hs => ?_)) hr Iff.rfl
  rw [prod_in ⟨⟨by omega, hs.2⟩, by omega, hs.2⟩]
  refine bne_iffd (fun hl => ?_)
  have hb' : sv.length < 2 ^ 62 := hb
  have key := iter_find' (B := B_VKS_1) (fun i => (((i : Int), ()), ((sd, (sv.length, ())), (sv, ())))) 0 sv.length (fun i => if fin (sv.getD i dN) = true then none else some (.inl ((false, ()), ((sd, (sv.length, ())), (sv, ()))))) (.inr ((), ((sd, (sv.length, ())), (sv, ())))) (Nat.zero_le _) hb (fun i _ hi => by
    have hi' : i < sv.length := hi
    unfold B_VKS_1 finG
    simp only [ltT hi', inB_of hi', inc64 hi' hb', cond_true, Int.toNat_natCast, Nat.zero_add, Option.bind_some]
    by_cases e : fin (sv.getD i dN) = true
    · rw [if_pos e, e]; rfl
    · rw [if_neg e, Bool.eq_false_iff.2 e]; rfl) (by
    unfold B_VKS_1
    simp only [ltF, cond_false])
  rcases firstOf_const (fun i => fin (sv.getD i dN)) (.inl ((false, ()), ((sd, (sv.length, ())), (sv, ()))) : R_VKS_1) (sv.length - 0) 0 with ⟨q, hall⟩ | ⟨q, j, _, hj, hbad⟩
  · refine ⟨true, ?_, ⟨fun _ => allf_yes (fun i hi => hall i (Nat.zero_le _) (by have : i < sv.length := hi; omega)), fun _ => rfl⟩⟩
    refine (congrArg (fun z => Option.bind z _) (show iter B_VKS_1 bigN _ = _ from key)).trans ?_
    rw [q]; rfl
  · refine ⟨false, ?_, ⟨fun e => absurd e (by decide), fun e => by rw [allf_no (i := j) (by omega) hbad] at e; cases e⟩⟩
    refine (congrArg (fun z => Option.bind z _) (show iter B_VKS_1 bigN _ = _ from key)).trans ?_
    rw [q]; rfl
theorem s_VKS : FTold Try.prog 117 vkPS := walkedF (fs := fs) (ss := ss_VKS) (loop := loops_VKS) tysOk mixed fnsOk ssOk_VKS 10 117 [.ptr FlD] [.bool] rfl _ fun (sd, sv) r h => (t_VKS sd sv).trans (p_VKS sd sv r h)
end Go.Proofs.Ytjggcekliaalgaa
