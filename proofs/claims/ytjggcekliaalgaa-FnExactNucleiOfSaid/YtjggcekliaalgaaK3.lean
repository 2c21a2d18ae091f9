/- Programs of temps: copies, likeness, validity. No condition. -/
import Derived.Test.YtjggcekliaalgaaK1
namespace Go.Proofs.Ytjggcekliaalgaa
open Go.Ab
def copy2G (x : Pr) : Option Pr := if x.1.length ≤ 2 ^ 40 ∧ x.2.length ≤ 2 ^ 40 then some x else none
def copy2S : FSpec := ⟨[PD], [PD], copy2G⟩
def loops_toP (_ _ _ : Nat) : Option LSpec := none
noncomputable def ss_toP : List (Nat × FSpec) := [(61, copyS)]
theorem ssOk_toP : FTolds Try.prog ss_toP := ⟨s_toL, trivial⟩
noncomputable def Γ_toP : Ctx := ctxOf Try.prog tys fs ss_toP loops_toP
noncomputable def d_toP (a b : LS) : Option (((List (Fl .f32)) × (List (Fl .f32)))) := Option.bind (copyG (sub a 0 (List.length a))) fun (r0 : (List (Fl .f32))) => (Option.bind (copyG (sub b 0 (List.length b))) fun (r1 : (List (Fl .f32))) => (some ((sub r0 0 (List.length r0), sub r1 0 (List.length r1)))))
theorem t_toP (a b : LS) : (fnT Γ_toP 10 13 [PD] [PD] (a, b)).den = d_toP a b := by kernel_rfl
theorem p_toP (a b : LS) (r : ((List (Fl .f32)) × (List (Fl .f32)))) (h : copy2G (a, b) = some r) : d_toP a b = some r := by
  obtain ⟨⟨h1, h2⟩, rfl⟩ := if_some (show (if a.length ≤ 2 ^ 40 ∧ b.length ≤ 2 ^ 40 then some (a, b) else none) = some r from h)
  have k1 : copyG a = some a := if_pos h1
  have k2 : copyG b = some b := if_pos h2
  unfold d_toP
  simp only [sub_all, k1, k2, Option.bind_some]
theorem s_toP : FTold Try.prog 13 copy2S := walkedF (fs := fs) (ss := ss_toP) (loop := loops_toP) tysOk mixed fnsOk ssOk_toP 10 13 [PD] [PD] rfl _ fun (a, b) r h => (t_toP a b).trans (p_toP a b r h)
def self2G (x : Pr × Pr) : Option Bool := if x.1 = x.2 ∧ x.1.1.length < 2 ^ 62 ∧ x.1.2.length < 2 ^ 62 then some true else none
def self2S : FSpec := ⟨[PD, PD], [.bool], self2G⟩
def loops_eqP (_ _ _ : Nat) : Option LSpec := none
noncomputable def ss_eqP : List (Nat × FSpec) := [(66, selfLS)]
theorem ssOk_eqP : FTolds Try.prog ss_eqP := ⟨s_eqL, trivial⟩
noncomputable def Γ_eqP : Ctx := ctxOf Try.prog tys fs ss_eqP loops_eqP
noncomputable def d_eqP (a b c d : LS) : Option (Bool) := Option.bind (selfLG (sub a 0 (List.length a), sub c 0 (List.length c))) fun (r0 : Bool) => (bif !r0 then (some (false)) else (Option.bind (selfLG (sub b 0 (List.length b), sub d 0 (List.length d))) fun (r1 : Bool) => (bif !r1 then (some (false)) else (some (true)))))
theorem t_eqP (a b c d : LS) : (fnT Γ_eqP 10 15 [PD, PD] [.bool] ((a, b), (c, d))).den = d_eqP a b c d := by kernel_rfl
theorem p_eqP (a b c d : LS) (r : Bool) (h : self2G ((a, b), (c, d)) = some r) : d_eqP a b c d = some r := by
  obtain ⟨⟨e, h1, h2⟩, rfl⟩ := if_some (show (if (a, b) = (c, d) ∧ a.length < 2 ^ 62 ∧ b.length < 2 ^ 62 then some true else none) = some r from h)
  cases e
  have k1 : selfLG (a, a) = some true := if_pos ⟨rfl, h1⟩
  have k2 : selfLG (b, b) = some true := if_pos ⟨rfl, h2⟩
  unfold d_eqP
  simp only [sub_all, k1, k2, Option.bind_some, Bool.not_true, cond_false]
theorem s_eqP : FTold Try.prog 15 self2S := walkedF (fs := fs) (ss := ss_eqP) (loop := loops_eqP) tysOk mixed fnsOk ssOk_eqP 10 15 [PD, PD] [.bool] rfl _ fun ((a, b), (c, d)) r h => (t_eqP a b c d).trans (p_eqP a b c d r h)
def szG (x : LS × Int) : Option Int := if 0 ≤ x.2 ∧ x.2 ≤ 2 ^ 20 ∧ x.1.length ≤ maxLen then some (szF x.2 x.1.length) else none
def szS : FSpec := ⟨[L32, I64], [I64], szG⟩
def loops_szL (_ _ _ : Nat) : Option LSpec := none
noncomputable def ss_szL : List (Nat × FSpec) := []
theorem ssOk_szL : FTolds Try.prog ss_szL := trivial
noncomputable def Γ_szL : Ctx := ctxOf Try.prog tys fs ss_szL loops_szL
noncomputable def d_szL (l : LS) (n : Int) : Option (Int) := bif decide (IntKind.i64.wrap (n - ((List.length l : Nat) : Int)) < 0) then (some (-1)) else (some (IntKind.i64.wrap (n - ((List.length l : Nat) : Int))))
theorem t_szL (l : LS) (n : Int) : (fnT Γ_szL 10 58 [L32, I64] [I64] (l, n)).den = d_szL l n := by kernel_rfl
theorem p_szL (l : LS) (n : Int) (r : Int) (h : szG (l, n) = some r) : d_szL l n = some r := by
  obtain ⟨⟨h0, h1, h2⟩, rfl⟩ := if_some (show (if 0 ≤ n ∧ n ≤ 2 ^ 20 ∧ List.length l ≤ maxLen then some (szF n (List.length l)) else none) = some r from h)
  have hm : maxLen = 9223372036854775807 := rfl
  unfold d_szL
  rw [wrap64 (by omega) (by omega)]
  unfold szF
  by_cases h : n < (l.length : Int)
  · rw [if_pos h, decide_eq_true (show n - (l.length : Int) < 0 by omega)]; rfl
  · rw [if_neg h, decide_eq_false (show ¬ n - (l.length : Int) < 0 by omega)]; rfl
theorem s_szL : FTold Try.prog 58 szS := walkedF (fs := fs) (ss := ss_szL) (loop := loops_szL) tysOk mixed fnsOk ssOk_szL 10 58 [L32, I64] [I64] rfl _ fun (l, n) r h => (t_szL l n).trans (p_szL l n r h)
def sz2G (x : Pr × Int) : Option Int := if 0 ≤ x.2 ∧ x.2 ≤ 2 ^ 20 ∧ x.1.1.length ≤ maxLen ∧ x.1.2.length ≤ maxLen then some (szF2 x.2 x.1.1.length x.1.2.length) else none
def sz2S : FSpec := ⟨[PD, I64], [I64], sz2G⟩
def loops_szP (_ _ _ : Nat) : Option LSpec := none
noncomputable def ss_szP : List (Nat × FSpec) := [(58, szS)]
theorem ssOk_szP : FTolds Try.prog ss_szP := ⟨s_szL, trivial⟩
noncomputable def Γ_szP : Ctx := ctxOf Try.prog tys fs ss_szP loops_szP
noncomputable def d_szP (a b : LS) (n : Int) : Option (Int) := Option.bind (szG (sub a 0 (List.length a), n)) fun (r0 : Int) => (bif decide (r0 < 0) then (some (-1)) else (Option.bind (szG (sub b 0 (List.length b), r0)) fun (r1 : Int) => (bif decide (r1 < 0) then (some (-1)) else (some (r1)))))
theorem t_szP (a b : LS) (n : Int) : (fnT Γ_szP 10 11 [PD, I64] [I64] ((a, b), n)).den = d_szP a b n := by kernel_rfl
theorem p_szP (a b : LS) (n : Int) (r : Int) (h : sz2G ((a, b), n) = some r) : d_szP a b n = some r := by
  obtain ⟨⟨h0, h1, h2, h3⟩, rfl⟩ := if_some (show (if 0 ≤ n ∧ n ≤ 2 ^ 20 ∧ List.length a ≤ maxLen ∧ List.length b ≤ maxLen then some (szF2 n (List.length a) (List.length b)) else none) = some r from h)
  have k1 : szG (a, n) = some (szF n a.length) := if_pos ⟨h0, h1, h2⟩
  unfold d_szP
  simp only [sub_all, k1, Option.bind_some]
  by_cases c1 : n < (a.length : Int)
  · have e1 : szF n a.length = -1 := if_pos c1
    have e2 : szF2 n a.length b.length = -1 := if_pos (by omega)
    rw [e1, e2]; rfl
  · have e1 : szF n a.length = n - a.length := if_neg c1
    have k2 : szG (b, n - a.length) = some (szF (n - a.length) b.length) := if_pos ⟨show 0 ≤ n - (a.length : Int) by omega, show n - (a.length : Int) ≤ 2 ^ 20 by omega, h3⟩
    rw [e1, decide_eq_false (show ¬ n - (a.length : Int) < 0 by omega), cond_false, k2]
    simp only [Option.bind_some]
    by_cases c2 : n - a.length < (b.length : Int)
    · have e3 : szF (n - a.length) b.length = -1 := if_pos c2
      have e2 : szF2 n a.length b.length = -1 := if_pos (by omega)
      rw [e3, e2]; rfl
    · have e3 : szF (n - a.length) b.length = n - a.length - b.length := if_neg c2
      have e2 : szF2 n a.length b.length = n - a.length - b.length := if_neg (by omega)
      rw [e3, e2, decide_eq_false (by omega)]; rfl
theorem s_szP : FTold Try.prog 11 sz2S := walkedF (fs := fs) (ss := ss_szP) (loop := loops_szP) tysOk mixed fnsOk ssOk_szP 10 11 [PD, I64] [I64] rfl _ fun ((a, b), n) r h => (t_szP a b n).trans (p_szP a b n r h)
def toldG (x : Fl .f32) : Option (Fl .f32 × Bool) := some (if fin x = true then (x, true) else (Fl.of .f32 0, false))
def toldS : FSpec := ⟨[F32], [F32, .bool], toldG⟩
def loops_told (_ _ _ : Nat) : Option LSpec := none
noncomputable def ss_told : List (Nat × FSpec) := [(106, finS)]
theorem ssOk_told : FTolds Try.prog ss_told := ⟨s_IsFinite, trivial⟩
noncomputable def Γ_told : Ctx := ctxOf Try.prog tys fs ss_told loops_told
noncomputable def d_told (x : Fl .f32) : Option (((Fl .f32) × Bool)) := Option.bind (finG x) fun (r0 : Bool) => (bif !r0 then (some ((Fl.of .f32 0, false))) else (some ((x, true))))
theorem t_told (x : Fl .f32) : (fnT Γ_told 10 157 [F32] [F32, .bool] x).den = d_told x := by kernel_rfl
theorem p_told (x : Fl .f32) (r : ((Fl .f32) × Bool)) (h : toldG x = some r) : d_told x = some r := by
  refine Eq.trans ?_ h
  unfold d_told toldG finG
  simp only [Option.bind_some]
  cases fin x <;> rfl
theorem s_told : FTold Try.prog 157 toldS := walkedF (fs := fs) (ss := ss_told) (loop := loops_told) tysOk mixed fnsOk ssOk_told 10 157 [F32] [F32, .bool] rfl _ fun x r h => (t_told x).trans (p_told x r h)
open Classical in
noncomputable def vp (a b : LS) : Bool := decide (2 ≤ a.length ∧ a.length ≤ 32 ∧ b.length = a.length ∧ fge (a.getD 0 dN) (Fl.of .f32 0) = true ∧ ∀ i, i < a.length → fin (a.getD i dN) = true ∧ fin (b.getD i dN) = true ∧ (1 ≤ i → fgt (a.getD i dN) (a.getD (i - 1) dN) = true))
theorem vp_false {a b : LS} (h : ¬ (2 ≤ a.length ∧ a.length ≤ 32 ∧ b.length = a.length ∧ fge (a.getD 0 dN) (Fl.of .f32 0) = true ∧ ∀ i, i < a.length → fin (a.getD i dN) = true ∧ fin (b.getD i dN) = true ∧ (1 ≤ i → fgt (a.getD i dN) (a.getD (i - 1) dN) = true))) : vp a b = false := decide_eq_false h
theorem vp_true {a b : LS} (h : 2 ≤ a.length ∧ a.length ≤ 32 ∧ b.length = a.length ∧ fge (a.getD 0 dN) (Fl.of .f32 0) = true ∧ ∀ i, i < a.length → fin (a.getD i dN) = true ∧ fin (b.getD i dN) = true ∧ (1 ≤ i → fgt (a.getD i dN) (a.getD (i - 1) dN) = true)) : vp a b = true := decide_eq_true h
theorem vp_of {a b : LS} (h : vp a b = true) : 2 ≤ a.length ∧ a.length ≤ 32 ∧ b.length = a.length ∧ fge (a.getD 0 dN) (Fl.of .f32 0) = true ∧ ∀ i, i < a.length → fin (a.getD i dN) = true ∧ fin (b.getD i dN) = true ∧ (1 ≤ i → fgt (a.getD i dN) (a.getD (i - 1) dN) = true) := of_decide_eq_true h
noncomputable def vpG (x : Pr) : Option Bool := if x.2.length < 2 ^ 62 then some (vp x.1 x.2) else none
noncomputable def vpS : FSpec := ⟨[PD], [.bool], vpG⟩
noncomputable def vpPG (x : Pr) : Option Bool := if x.2.length < 2 ^ 62 then some (vp x.1 x.2) else none
noncomputable def vpPS : FSpec := ⟨[.ptr PD], [.bool], vpPG⟩
abbrev rises (a : LS) (i : Nat) : Prop := fgt (a.getD i dN) (a.getD (i - 1) dN) = true
theorem firstOf_shift {ρ : Type} (f : Nat → Option ρ) : ∀ m i, firstOf (fun i => f (i + 1)) m i = firstOf f m (i + 1)
  | 0, _ => rfl
  | m + 1, i => by
    unfold firstOf
    cases f (i + 1) with
    | some r => rfl
    | none => exact firstOf_shift f m (i + 1)
theorem all_get {l : LS} : l.all fin = true ↔ ∀ i, i < l.length → fin (l.getD i dN) = true := by
  rw [List.all_eq_true]
  constructor
  · intro h i hi
    have := h l[i] (List.getElem_mem _)
    simpa [List.getD_eq_getElem?_getD, hi] using this
  · intro h x hx
    obtain ⟨j, hj, rfl⟩ := List.getElem_of_mem hx
    have := h j hj
    simpa [List.getD_eq_getElem?_getD, hj] using this
theorem dec64 {i : Nat} (h0 : 1 ≤ i) (h : i < 2 ^ 62) : IntKind.i64.wrap ((i : Int) - 1) = ((i - 1 : Nat) : Int) := by rw [wrap64 (by omega) (by omega)]; omega
def L_validI_1 : LSpec := ⟨[1, 3, 4], ⟨Shs.at 56 [(1, (.ptr 2146435392 0 0)), (3, (.int IntKind.i64)), (4, (.int IntKind.i64))], [(2, (.arr false (EK.flt FloatKind.f32))), (3, (.arr false (EK.flt FloatKind.f32))), (2146435392, (.vals true (.cons (.slc 2) (.cons (.slc 3) .nil))))]⟩, [⟨.ret, [2], ⟨Shs.at 56 [(2, .bool)], [(2, (.arr false (EK.flt FloatKind.f32))), (3, (.arr false (EK.flt FloatKind.f32)))]⟩⟩, ⟨.ext 0, [], ⟨Shs.at 56 [], [(2, (.arr false (EK.flt FloatKind.f32))), (3, (.arr false (EK.flt FloatKind.f32)))]⟩⟩], fun _ => bigN⟩
def loops_validI (f k n : Nat) : Option LSpec := bif (Nat.beq f 62 && Nat.beq k 5 && Nat.beq n 1) then some L_validI_1 else none
abbrev S_validI_1 : Type := ((Int × (Int × Unit)) × ((List (Fl .f32)) × ((List (Fl .f32)) × ((Nat × (Nat × Unit)) × Unit))))
abbrev R_validI_1 : Type := (((Bool × Unit) × ((List (Fl .f32)) × ((List (Fl .f32)) × Unit))) ⊕ (Unit × ((List (Fl .f32)) × ((List (Fl .f32)) × Unit))))
noncomputable def B_validI_1 (y : S_validI_1) : Option (S_validI_1 ⊕ R_validI_1) := bif decide (y.1.2.1 < y.1.1) then (bif inB y.1.2.1 y.2.2.2.1.1 then (bif inB (IntKind.i64.wrap (y.1.2.1 - 1)) y.2.2.2.1.1 then (bif !fgt (List.getD y.2.1 (0 + Int.toNat y.1.2.1) dN) (List.getD y.2.1 (0 + (IntKind.i64.wrap (y.1.2.1 - 1)).toNat) dN) then (some (Sum.inr (Sum.inl (((false, ()), (y.2.1, (y.2.2.1, ()))))))) else (some (Sum.inl (((y.1.1, (IntKind.i64.wrap (y.1.2.1 + 1), ())), (y.2.1, (y.2.2.1, ((y.2.2.2.1.1, (y.2.2.2.1.2.1, ())), ())))))))) else (none)) else (none)) else (some (Sum.inr (Sum.inr (((), (y.2.1, (y.2.2.1, ())))))))
noncomputable def ss_validI : List (Nat × FSpec) := [(84, withinS), (112, allFinS)]
theorem ssOk_validI : FTolds Try.prog ss_validI := ⟨s_within, s_areFinite, trivial⟩
noncomputable def Γ_validI : Ctx := ctxOf Try.prog tys fs ss_validI loops_validI
noncomputable def d_validI (a b : LS) : Option (Bool) := Option.bind (withinG (((List.length a : Nat) : Int), 2, 32)) fun (r0 : Bool) => (bif !r0 then (some (false)) else (bif ((List.length b : Nat) : Int) != ((List.length a : Nat) : Int) then (some (false)) else (Option.bind (allFinG (sub a 0 (List.length a))) fun (r1 : Bool) => (bif !r1 then (some (false)) else (Option.bind (allFinG (sub b 0 (List.length b))) fun (r2 : Bool) => (bif !r2 then (some (false)) else (bif inB 0 (List.length a) then (bif !fge (List.getD a (0 + Int.toNat 0) dN) (Fl.of .f32 0) then (some (false)) else (Option.bind (iter B_validI_1 bigN (((((List.length a : Nat) : Int), (1, ())), (a, (b, ((List.length a, (List.length b, ())), ())))))) fun (r3 : (((Bool × Unit) × ((List (Fl .f32)) × ((List (Fl .f32)) × Unit))) ⊕ (Unit × ((List (Fl .f32)) × ((List (Fl .f32)) × Unit))))) => (match r3 with | .inl x4 => (some (x4.1.1)) | .inr x4 => (some (true))))) else (none))))))))
theorem t_validI (a b : LS) : (fnT Γ_validI 10 62 [PD] [.bool] (a, b)).den = d_validI a b := by kernel_rfl
abbrev SV (a b : LS) (i : Nat) : S_validI_1 := (((a.length : Int), ((i : Int), ())), (a, (b, ((a.length, (b.length, ())), ()))))
abbrev stopI (a b : LS) (i : Nat) : Option R_validI_1 := if rises a i then none else some (.inl ((false, ()), (a, (b, ()))))
theorem loopI (a b : LS) (hn : 2 ≤ a.length) (hb : a.length < 2 ^ 62) : iter B_validI_1 bigN (SV a b 1) = some ((firstOf (stopI a b) (a.length - 1) 1).getD (.inr ((), (a, (b, ()))))) :=
  iter_find' (fun i => SV a b i) 1 a.length (stopI a b) (.inr ((), (a, (b, ())))) (by omega) hb (fun i hi0 hi => by
    unfold B_validI_1 stopI rises
    simp only [ltT hi, inB_of hi, inc64 hi hb, dec64 hi0 (show i < 2 ^ 62 by omega), inB_of (show i - 1 < a.length by omega), cond_true, Int.toNat_natCast, Nat.zero_add]
    by_cases e : fgt (a.getD i dN) (a.getD (i - 1) dN) = true
    · rw [if_pos e, e]; rfl
    · rw [if_neg e, Bool.eq_false_iff.2 e]; rfl) (by
    unfold B_validI_1
    simp only [ltF, cond_false])
theorem p_validI (a b : LS) (r : Bool) (h : vpG (a, b) = some r) : d_validI a b = some r := by
  obtain ⟨hb, rfl⟩ := if_some (show (if b.length < 2 ^ 62 then some (vp a b) else none) = some r from h)
  unfold d_validI withinG
  simp only [Option.bind_some]
  by_cases c1 : 2 ≤ a.length
  · rw [decide_eq_true (show (2 : Int) ≤ (a.length : Int) by omega)]
    by_cases c2 : a.length ≤ 32
    · rw [decide_eq_true (show (a.length : Int) ≤ 32 by omega)]
      simp only [Bool.and_self, Bool.not_true, cond_false]
      by_cases c3 : b.length = a.length
      · have h3 : ((b.length : Int) != (a.length : Int)) = false := by simp [c3]
        have h4 : inB 0 a.length = true := inB_of (i := 0) (by omega)
        have p1 : allFinG a = some (a.all fin) := if_pos (by omega)
        have p2 : allFinG b = some (b.all fin) := if_pos hb
        rw [h3, cond_false, sub_all, sub_all, p1, p2, h4]
        simp only [Option.bind_some, cond_true]
        cases k1 : a.all fin with
        | false =>
          rw [vp_false fun h => ?_]
          · rfl
          · have := all_get.2 fun i hi => (h.2.2.2.2 i hi).1
            rw [k1] at this; cases this
        | true =>
          cases k2 : b.all fin with
          | false =>
            rw [vp_false fun h => ?_]
            · rfl
            · have := all_get.2 fun i hi => (h.2.2.2.2 i (by omega)).2.1
              rw [k2] at this; cases this
          | true =>
            simp only [Bool.not_true, cond_false]
            have g0 : a.getD (0 + Int.toNat 0) dN = a.getD 0 dN := rfl
            rw [g0]
            by_cases c4 : fge (a.getD 0 dN) (Fl.of .f32 0) = true
            · rw [c4]
              simp only [Bool.not_true, cond_false]
              refine (congrArg (fun z => Option.bind z _) (show iter B_validI_1 bigN _ = _ from loopI a b c1 (by omega))).trans ?_
              cases hf : firstOf (stopI a b) (a.length - 1) 1 with
              | none =>
                rw [vp_true ⟨c1, c2, c3, c4, fun i hi => ⟨all_get.1 k1 i hi, all_get.1 k2 i (by omega), fun h1 => ?_⟩⟩]
                · rfl
                · have := (firstOf_none _ _ _).1 hf i h1 (by omega)
                  unfold stopI at this
                  split at this
                  · assumption
                  · cases this
              | some r =>
                obtain ⟨j, hj1, hj, hs⟩ := firstOf_some _ _ _ _ hf
                unfold stopI at hs
                split at hs
                · cases hs
                · rename_i hg
                  cases hs
                  rw [vp_false fun h => hg ((h.2.2.2.2 j (by omega)).2.2 hj1)]; rfl
            · rw [vp_false fun h => c4 h.2.2.2.1, Bool.eq_false_iff.2 c4]; rfl
      · have h3 : ((b.length : Int) != (a.length : Int)) = true := by simp; omega
        rw [vp_false fun h => c3 h.2.2.1, h3]; rfl
    · rw [vp_false fun h => c2 h.2.1, decide_eq_false (show ¬ (a.length : Int) ≤ 32 by omega)]; rfl
  · rw [vp_false fun h => c1 h.1, decide_eq_false (show ¬ (2 : Int) ≤ (a.length : Int) by omega)]; rfl
theorem s_validI : FTold Try.prog 62 vpS := walkedF (fs := fs) (ss := ss_validI) (loop := loops_validI) tysOk mixed fnsOk ssOk_validI 10 62 [PD] [.bool] rfl _ fun (a, b) r h => (t_validI a b).trans (p_validI a b r h)
def L_validS_1 : LSpec := ⟨[0, 39, 40], ⟨Shs.at 87 [(0, (.ptr 2 0 0)), (39, (.int IntKind.i64)), (40, (.int IntKind.i64))], [(2, (.vals false (.cons (.slc 3) (.cons (.slc 4) .nil)))), (3, (.arr false (EK.flt FloatKind.f32))), (4, (.arr false (EK.flt FloatKind.f32)))]⟩, [⟨.ret, [2], ⟨Shs.at 87 [(2, .bool)], [(2, (.vals false (.cons (.slc 3) (.cons (.slc 4) .nil)))), (3, (.arr false (EK.flt FloatKind.f32))), (4, (.arr false (EK.flt FloatKind.f32)))]⟩⟩, ⟨.ext 0, [], ⟨Shs.at 87 [], [(2, (.vals false (.cons (.slc 3) (.cons (.slc 4) .nil)))), (3, (.arr false (EK.flt FloatKind.f32))), (4, (.arr false (EK.flt FloatKind.f32)))]⟩⟩], fun _ => bigN⟩
def loops_validS (f k n : Nat) : Option LSpec := bif (Nat.beq f 59 && Nat.beq k 5 && Nat.beq n 1) then some L_validS_1 else none
abbrev S_validS_1 : Type := ((Int × (Int × Unit)) × ((Nat × (Nat × Unit)) × ((List (Fl .f32)) × ((List (Fl .f32)) × Unit))))
abbrev R_validS_1 : Type := (((Bool × Unit) × ((Nat × (Nat × Unit)) × ((List (Fl .f32)) × ((List (Fl .f32)) × Unit)))) ⊕ (Unit × ((Nat × (Nat × Unit)) × ((List (Fl .f32)) × ((List (Fl .f32)) × Unit)))))
noncomputable def B_validS_1 (y : S_validS_1) : Option (S_validS_1 ⊕ R_validS_1) := bif decide (y.1.2.1 < y.1.1) then (bif inB y.1.2.1 y.2.1.1 then (Option.bind (finG (List.getD y.2.2.1 (0 + Int.toNat y.1.2.1) dN)) fun (r1 : Bool) => (bif !r1 then (some (Sum.inr (Sum.inl (((false, ()), ((y.2.1.1, (y.2.1.2.1, ())), (y.2.2.1, (y.2.2.2.1, ())))))))) else (bif inB y.1.2.1 y.2.1.2.1 then (Option.bind (finG (List.getD y.2.2.2.1 (0 + Int.toNat y.1.2.1) dN)) fun (r2 : Bool) => (bif !r2 then (some (Sum.inr (Sum.inl (((false, ()), ((y.2.1.1, (y.2.1.2.1, ())), (y.2.2.1, (y.2.2.2.1, ())))))))) else (bif decide (y.1.2.1 > 0) then (bif inB y.1.2.1 y.2.1.1 then (bif inB (IntKind.i64.wrap (y.1.2.1 - 1)) y.2.1.1 then (bif !fgt (List.getD y.2.2.1 (0 + Int.toNat y.1.2.1) dN) (List.getD y.2.2.1 (0 + (IntKind.i64.wrap (y.1.2.1 - 1)).toNat) dN) then (some (Sum.inr (Sum.inl (((false, ()), ((y.2.1.1, (y.2.1.2.1, ())), (y.2.2.1, (y.2.2.2.1, ())))))))) else (some (Sum.inl (((y.1.1, (IntKind.i64.wrap (y.1.2.1 + 1), ())), ((y.2.1.1, (y.2.1.2.1, ())), (y.2.2.1, (y.2.2.2.1, ())))))))) else (none)) else (none)) else (some (Sum.inl (((y.1.1, (IntKind.i64.wrap (y.1.2.1 + 1), ())), ((y.2.1.1, (y.2.1.2.1, ())), (y.2.2.1, (y.2.2.2.1, ())))))))))) else (none)))) else (none)) else (some (Sum.inr (Sum.inr (((), ((y.2.1.1, (y.2.1.2.1, ())), (y.2.2.1, (y.2.2.2.1, ()))))))))
noncomputable def ss_validS : List (Nat × FSpec) := [(102, finS)]
theorem ssOk_validS : FTolds Try.prog ss_validS := ⟨s_l01Finite, trivial⟩
noncomputable def Γ_validS : Ctx := ctxOf Try.prog tys fs ss_validS loops_validS
noncomputable def d_validS (a b : LS) : Option (Bool) := bif decide (((List.length a : Nat) : Int) < 2) then (some (false)) else (bif decide (((List.length a : Nat) : Int) > 32) then (some (false)) else (bif ((List.length b : Nat) : Int) != ((List.length a : Nat) : Int) then (some (false)) else (bif inB 0 (List.length a) then (bif !fge (List.getD a (0 + Int.toNat 0) dN) (Fl.of .f32 0) then (some (false)) else (Option.bind (iter B_validS_1 bigN (((((List.length a : Nat) : Int), (0, ())), ((List.length a, (List.length b, ())), (a, (b, ())))))) fun (r0 : (((Bool × Unit) × ((Nat × (Nat × Unit)) × ((List (Fl .f32)) × ((List (Fl .f32)) × Unit)))) ⊕ (Unit × ((Nat × (Nat × Unit)) × ((List (Fl .f32)) × ((List (Fl .f32)) × Unit)))))) => (match r0 with | .inl x3 => (some (x3.1.1)) | .inr x3 => (some (true))))) else (none))))
theorem t_validS (a b : LS) : (fnT Γ_validS 10 59 [.ptr PD] [.bool] (a, b)).den = d_validS a b := by kernel_rfl
abbrev good (a b : LS) (i : Nat) : Prop := fin (a.getD i dN) = true ∧ fin (b.getD i dN) = true ∧ (1 ≤ i → rises a i)
abbrev SVS (a b : LS) (i : Nat) : S_validS_1 := (((a.length : Int), ((i : Int), ())), ((a.length, (b.length, ())), (a, (b, ()))))
abbrev badS (a b : LS) : R_validS_1 := .inl ((false, ()), ((a.length, (b.length, ())), (a, (b, ()))))
open Classical in
noncomputable abbrev stopS (a b : LS) (i : Nat) : Option R_validS_1 := if good a b i then none else some (badS a b)
open Classical in
theorem loopS (a b : LS) (he : b.length = a.length) (hb : a.length < 2 ^ 62) : iter B_validS_1 bigN (SVS a b 0) = some ((firstOf (stopS a b) (a.length - 0) 0).getD (.inr ((), ((a.length, (b.length, ())), (a, (b, ())))))) :=
  iter_find' (fun i => SVS a b i) 0 a.length (fun i => stopS a b i) (.inr ((), ((a.length, (b.length, ())), (a, (b, ()))))) (Nat.zero_le _) hb (fun i _ hi => by
    have h3 : inB (i : Int) b.length = true := inB_of (by omega)
    unfold B_validS_1 stopS good finG
    simp only [ltT hi, inB_of hi, h3, inc64 hi hb, cond_true, Int.toNat_natCast, Nat.zero_add, Option.bind_some]
    by_cases k1 : fin (a.getD i dN) = true
    · by_cases k2 : fin (b.getD i dN) = true
      · rw [k1, k2]
        by_cases k3 : 1 ≤ i
        · have h6 : decide ((i : Int) > 0) = true := by simp; omega
          simp only [h6, dec64 k3 (show i < 2 ^ 62 by omega), inB_of (show i - 1 < a.length by omega), cond_true, cond_false, Bool.not_true, Int.toNat_natCast]
          by_cases k4 : fgt (a.getD i dN) (a.getD (i - 1) dN) = true
          · rw [if_pos ⟨trivial, trivial, fun _ => k4⟩, k4]; rfl
          · rw [if_neg (fun h => k4 (h.2.2 k3)), Bool.eq_false_iff.2 k4]; rfl
        · have h6 : decide ((i : Int) > 0) = false := by simp; omega
          rw [if_pos ⟨rfl, rfl, fun h => absurd h k3⟩]
          simp only [h6, cond_false, Bool.not_true]
      · rw [if_neg (fun h => k2 h.2.1), k1, Bool.eq_false_iff.2 k2]; rfl
    · rw [if_neg (fun h => k1 h.1), Bool.eq_false_iff.2 k1]; rfl) (by
    unfold B_validS_1
    simp only [ltF, cond_false])
theorem p_validS (a b : LS) (r : Bool) (h : vpPG (a, b) = some r) : d_validS a b = some r := by
  obtain ⟨hb, rfl⟩ := if_some (show (if b.length < 2 ^ 62 then some (vp a b) else none) = some r from h)
  unfold d_validS
  by_cases c1 : 2 ≤ a.length
  · rw [decide_eq_false (show ¬ (a.length : Int) < 2 by omega), cond_false]
    by_cases c2 : a.length ≤ 32
    · rw [decide_eq_false (show ¬ (a.length : Int) > 32 by omega), cond_false]
      by_cases c3 : b.length = a.length
      · have h3 : ((b.length : Int) != (a.length : Int)) = false := by simp [c3]
        have h4 : inB 0 a.length = true := inB_of (i := 0) (by omega)
        rw [h3, cond_false, h4, cond_true]
        have g0 : a.getD (0 + Int.toNat 0) dN = a.getD 0 dN := rfl
        rw [g0]
        by_cases c4 : fge (a.getD 0 dN) (Fl.of .f32 0) = true
        · rw [c4]
          refine (congrArg (fun z => Option.bind z _) (show iter B_validS_1 bigN _ = _ from loopS a b c3 (by omega))).trans ?_
          cases hf : firstOf (stopS a b) (a.length - 0) 0 with
          | none =>
            rw [vp_true ⟨c1, c2, c3, c4, fun i hi => ?_⟩]
            · rfl
            · have := (firstOf_none _ _ _).1 hf i (Nat.zero_le _) (by omega)
              unfold stopS at this
              split at this
              · assumption
              · cases this
          | some r =>
            obtain ⟨j, _, hj, hs⟩ := firstOf_some _ _ _ _ hf
            unfold stopS at hs
            split at hs
            · cases hs
            · rename_i hg
              cases hs
              rw [vp_false fun h => hg (h.2.2.2.2 j (by omega))]; rfl
        · rw [vp_false fun h => c4 h.2.2.2.1, Bool.eq_false_iff.2 c4]; rfl
      · have h3 : ((b.length : Int) != (a.length : Int)) = true := by simp; omega
        rw [vp_false fun h => c3 h.2.2.1, h3]; rfl
    · rw [vp_false fun h => c2 h.2.1, decide_eq_true (show (a.length : Int) > 32 by omega)]; rfl
  · rw [vp_false fun h => c1 h.1, decide_eq_true (show (a.length : Int) < 2 by omega)]; rfl
theorem s_validS : FTold Try.prog 59 vpPS := walkedF (fs := fs) (ss := ss_validS) (loop := loops_validS) tysOk mixed fnsOk ssOk_validS 10 59 [.ptr PD] [.bool] rfl _ fun (a, b) r h => (t_validS a b).trans (p_validS a b r h)
end Go.Proofs.Ytjggcekliaalgaa
