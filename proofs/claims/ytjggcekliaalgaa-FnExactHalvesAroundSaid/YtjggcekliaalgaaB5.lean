/- The program's HalvesAround answers as the reference's does, at all arguments: the law. No condition. -/
import Derived.Test.YtjggcekliaalgaaB4
namespace Go.Proofs.Ytjggcekliaalgaa
open Go.Ab
def selfCG (x : (Fl .f64 × Fl .f64) × (Fl .f64 × Fl .f64)) : Option Bool := if x.1 = x.2 then some true else none
def selfCS : FSpec := ⟨[.cpx .f64, .cpx .f64], [.bool], selfCG⟩
def loops_sameC (_ _ _ : Nat) : Option LSpec := none
noncomputable def ss_sameC : List (Nat × FSpec) := [(135, selfFS)]
theorem ssOk_sameC : FTolds Try.prog ss_sameC := ⟨s_sameFloat, trivial⟩
noncomputable def Γ_sameC : Ctx := ctxOf Try.prog tys fs ss_sameC loops_sameC
noncomputable def d_sameC (a b c d : Fl .f64) : Option (Bool) := Option.bind (selfFG (a, c)) fun (r0 : Bool) => (bif r0 then (Option.bind (selfFG (b, d)) fun (r1 : Bool) => (some (r1))) else (some (false)))
theorem t_sameC (a b c d : Fl .f64) : (fnT Γ_sameC 10 170 [.cpx .f64, .cpx .f64] [.bool] ((a, b), (c, d))).den = d_sameC a b c d := by kernel_rfl
theorem p_sameC (a b c d : Fl .f64) (r : Bool) (h : selfCG ((a, b), (c, d)) = some r) : d_sameC a b c d = some r := by
  obtain ⟨e, rfl⟩ := if_some (show (if (a, b) = (c, d) then some true else none) = some r from h)
  cases e
  have k1 : ∀ z : Fl .f64, selfFG (z, z) = some true := fun z => if_pos rfl
  unfold d_sameC
  simp only [k1, Option.bind_some, cond_true]
theorem s_sameC : FTold Try.prog 170 selfCS := walkedF (fs := fs) (ss := ss_sameC) (loop := loops_sameC) tysOk mixed fnsOk ssOk_sameC 10 170 [.cpx .f64, .cpx .f64] [.bool] rfl _ fun ((a, b), (c, d)) r h => (t_sameC a b c d).trans (p_sameC a b c d r h)
def selfHaG (x : HaT × HaT) : Option Bool := if x.1 = x.2 then some true else none
def selfHaS : FSpec := ⟨[HaD, HaD], [.bool], selfHaG⟩
def loops_eqHalf (_ _ _ : Nat) : Option LSpec := none
noncomputable def ss_eqHalf : List (Nat × FSpec) := [(170, selfCS), (135, selfFS)]
theorem ssOk_eqHalf : FTolds Try.prog ss_eqHalf := ⟨s_sameC, s_sameFloat, trivial⟩
noncomputable def Γ_eqHalf : Ctx := ctxOf Try.prog tys fs ss_eqHalf loops_eqHalf
noncomputable def d_eqHalf (a b c d e f : Fl .f32) : Option (Bool) := Option.bind (selfCG ((fwide a, fwide b), fwide d, fwide e)) fun (r0 : Bool) => (bif !r0 then (some (false)) else (Option.bind (selfFG (fwide c, fwide f)) fun (r1 : Bool) => (bif !r1 then (some (false)) else (some (true)))))
theorem t_eqHalf (a b c d e f : Fl .f32) : (fnT Γ_eqHalf 10 110 [HaD, HaD] [.bool] (((a, b), c), ((d, e), f))).den = d_eqHalf a b c d e f := by kernel_rfl
theorem p_eqHalf (a b c d e f : Fl .f32) (r : Bool) (h : selfHaG (((a, b), c), ((d, e), f)) = some r) : d_eqHalf a b c d e f = some r := by
  obtain ⟨q, rfl⟩ := if_some (show (if ((a, b), c) = ((d, e), f) then some true else none) = some r from h)
  cases q
  have k1 : ∀ z : Fl .f64, selfFG (z, z) = some true := fun z => if_pos rfl
  have k2 : ∀ z : Fl .f64 × Fl .f64, selfCG (z, z) = some true := fun z => if_pos rfl
  unfold d_eqHalf
  simp only [k1, k2, Option.bind_some, Bool.not_true, cond_false]
theorem s_eqHalf : FTold Try.prog 110 selfHaS := walkedF (fs := fs) (ss := ss_eqHalf) (loop := loops_eqHalf) tysOk mixed fnsOk ssOk_eqHalf 10 110 [HaD, HaD] [.bool] rfl _ fun (((a, b), c), ((d, e), f)) r h => (t_eqHalf a b c d e f).trans (p_eqHalf a b c d e f r h)
def selfHLG (x : List HaT × List HaT) : Option Bool := if x.1 = x.2 ∧ x.1.length < 2 ^ 62 then some true else none
def selfHLS : FSpec := ⟨[.list HaE, .list HaE], [.bool], selfHLG⟩
def L_eqHL_1 : LSpec := ⟨[0, 1, 5], ⟨Shs.at 27 [(0, (.slc 2)), (1, (.slc 3)), (5, (.int IntKind.i64))], [(2, (.arr false ((EK.cpx FloatKind.f32).pair (EK.flt FloatKind.f32)))), (3, (.arr false ((EK.cpx FloatKind.f32).pair (EK.flt FloatKind.f32))))]⟩, [⟨.ret, [4], ⟨Shs.at 27 [(4, .bool)], [(2, (.arr false ((EK.cpx FloatKind.f32).pair (EK.flt FloatKind.f32)))), (3, (.arr false ((EK.cpx FloatKind.f32).pair (EK.flt FloatKind.f32))))]⟩⟩, ⟨.ext 0, [], ⟨Shs.at 27 [], [(2, (.arr false ((EK.cpx FloatKind.f32).pair (EK.flt FloatKind.f32)))), (3, (.arr false ((EK.cpx FloatKind.f32).pair (EK.flt FloatKind.f32))))]⟩⟩], fun _ => bigN⟩
def loops_eqHL (f k n : Nat) : Option LSpec := bif (Nat.beq f 36 && Nat.beq k 4 && Nat.beq n 1) then some L_eqHL_1 else none
abbrev S_eqHL_1 : Type := ((Nat × (Nat × (Int × Unit))) × ((List (((Fl .f32) × (Fl .f32)) × (Fl .f32))) × ((List (((Fl .f32) × (Fl .f32)) × (Fl .f32))) × Unit)))
abbrev R_eqHL_1 : Type := (((Bool × Unit) × ((List (((Fl .f32) × (Fl .f32)) × (Fl .f32))) × ((List (((Fl .f32) × (Fl .f32)) × (Fl .f32))) × Unit))) ⊕ (Unit × ((List (((Fl .f32) × (Fl .f32)) × (Fl .f32))) × ((List (((Fl .f32) × (Fl .f32)) × (Fl .f32))) × Unit))))
noncomputable def B_eqHL_1 (y : S_eqHL_1) : Option (S_eqHL_1 ⊕ R_eqHL_1) := bif decide (y.1.2.2.1 < (y.1.1 : Int)) then (bif inB y.1.2.2.1 y.1.1 then (bif inB y.1.2.2.1 y.1.2.1 then (Option.bind (selfHaG ((((List.getD y.2.1 (0 + Int.toNat y.1.2.2.1) ((EK.cpx .f32).pair (EK.flt .f32)).dflt).1.1, (List.getD y.2.1 (0 + Int.toNat y.1.2.2.1) ((EK.cpx .f32).pair (EK.flt .f32)).dflt).1.2), (List.getD y.2.1 (0 + Int.toNat y.1.2.2.1) ((EK.cpx .f32).pair (EK.flt .f32)).dflt).2), ((List.getD y.2.2.1 (0 + Int.toNat y.1.2.2.1) ((EK.cpx .f32).pair (EK.flt .f32)).dflt).1.1, (List.getD y.2.2.1 (0 + Int.toNat y.1.2.2.1) ((EK.cpx .f32).pair (EK.flt .f32)).dflt).1.2), (List.getD y.2.2.1 (0 + Int.toNat y.1.2.2.1) ((EK.cpx .f32).pair (EK.flt .f32)).dflt).2)) fun (r1 : Bool) => (bif !r1 then (some (Sum.inr (Sum.inl (((false, ()), (y.2.1, (y.2.2.1, ()))))))) else (some (Sum.inl (((y.1.1, (y.1.2.1, (IntKind.i64.wrap (y.1.2.2.1 + 1), ()))), (y.2.1, (y.2.2.1, ())))))))) else (none)) else (none)) else (some (Sum.inr (Sum.inr (((), (y.2.1, (y.2.2.1, ())))))))
noncomputable def ss_eqHL : List (Nat × FSpec) := [(110, selfHaS)]
theorem ssOk_eqHL : FTolds Try.prog ss_eqHL := ⟨s_eqHalf, trivial⟩
noncomputable def Γ_eqHL : Ctx := ctxOf Try.prog tys fs ss_eqHL loops_eqHL
noncomputable def d_eqHL (l m : List HaT) : Option (Bool) := bif (l.length : Int) != (m.length : Int) then (some (false)) else (Option.bind (iter B_eqHL_1 bigN (((l.length, (m.length, (0, ()))), (l, (m, ()))))) fun (r0 : (((Bool × Unit) × ((List (((Fl .f32) × (Fl .f32)) × (Fl .f32))) × ((List (((Fl .f32) × (Fl .f32)) × (Fl .f32))) × Unit))) ⊕ (Unit × ((List (((Fl .f32) × (Fl .f32)) × (Fl .f32))) × ((List (((Fl .f32) × (Fl .f32)) × (Fl .f32))) × Unit))))) => (match r0 with | .inl x2 => (some (x2.1.1)) | .inr x2 => (some (true))))
theorem t_eqHL (l m : List HaT) : (fnT Γ_eqHL 10 36 [.list HaE, .list HaE] [.bool] (l, m)).den = d_eqHL l m := by kernel_rfl
theorem p_eqHL (l m : List HaT) (r : Bool) (h : selfHLG (l, m) = some r) : d_eqHL l m = some r := by
  obtain ⟨⟨rfl, hb⟩, rfl⟩ := if_some (show (if l = m ∧ l.length < 2 ^ 62 then some true else none) = some r from h)
  unfold d_eqHL
  have key := iter_for (B := B_eqHL_1) (fun i => ((l.length, (l.length, ((i : Int), ()))), (l, (l, ())))) 0 l.length (.inr ((), (l, (l, ())))) (Nat.zero_le _) hb (fun i _ hi => by
    have k2 : ∀ z : HaT, selfHaG (((z.1.1, z.1.2), z.2), (z.1.1, z.1.2), z.2) = some true := fun z => if_pos rfl
    unfold B_eqHL_1
    simp only [ltT hi, inB_of hi, inc64 hi hb, cond_true, Int.toNat_natCast, Nat.zero_add, k2, Option.bind_some, Bool.not_true, cond_false]) (by
    unfold B_eqHL_1
    simp only [ltF, cond_false])
  have h0 : ((l.length : Int) != (l.length : Int)) = false := by simp
  rw [h0, cond_false]
  exact congrArg (fun z => Option.bind z _) key
theorem s_eqHL : FTold Try.prog 36 selfHLS := walkedF (fs := fs) (ss := ss_eqHL) (loop := loops_eqHL) tysOk mixed fnsOk ssOk_eqHL 10 36 [.list HaE, .list HaE] [.bool] rfl _ fun (l, m) r h => (t_eqHL l m).trans (p_eqHL l m r h)
theorem wide_int {k : Nat} (h0 : 1 ≤ k) (h1 : k ≤ 1000) : fconv .f64 .f32 (fofInt .f64 (k : Int)) = some (fofInt .f32 (k : Int)) := by
  obtain ⟨⟨a1, a2⟩, b1, b2⟩ := whole_val h1
  obtain ⟨y, e, y1, y2, y3⟩ := conv_between (s := .f64) (d := .f32) b1 a1 a1 (by rw [a2, b2]; exact Rat.le_refl) (by rw [a2, b2]; exact Rat.le_refl)
  have hv : val y = val (fofInt .f32 (k : Int)) := Rat.le_antisymm y3 y2
  rw [e, val_inj y1 a1 hv (by rw [hv, a2]; exact n_ne (by omega))]
theorem one_conv : fconv .f64 .f32 (Fl.of .f64 4607182418800017408) = some (Fl.of .f32 1065353216) := by decide +kernel
theorem one_feq : feq (Fl.of .f32 1065353216) (Fl.of .f32 1065353216) = true := by decide +kernel
theorem feq_ofInt (n : Int) : feq (fofInt .f32 n) (fofInt .f32 n) = true := by
  have h : fne (fofInt .f32 n) (fofInt .f32 n) = false := fne_ofInt n
  have e : feq (fofInt .f32 n) (fofInt .f32 n) = !fne (fofInt .f32 n) (fofInt .f32 n) := by
    show _ = !!(feq (fofInt .f32 n) (fofInt .f32 n))
    rw [Bool.not_not]
  rw [e, h]; rfl
def hmk (i : Nat) : HaT := ((fofInt .f32 ((1 + 2 * i : Nat) : Int), Fl.of .f32 1065353216), fofInt .f32 ((2 + 2 * i : Nat) : Int))
def hmarks (n : Nat) : List HaT := mapR hmk n
theorem hmarks_len (n : Nat) : (hmarks n).length = n := mapR_len _ _
theorem sub_hmarks (n : Nat) : sub (hmarks n) 0 n = hmarks n := by have := sub_all (hmarks n); rw [hmarks_len] at this; exact this
def heldHLG (x : List HaT × Int) : Option Int := if x.1 = hmarks x.1.length ∧ x.1.length ≤ 48 ∧ x.2 = 1 then some ((1 + 2 * x.1.length : Nat) : Int) else none
def heldHLS : FSpec := ⟨[.list HaE, I64], [I64], heldHLG⟩
def L_heldHL_1 : LSpec := ⟨[0, 1, 5], ⟨Shs.at 35 [(0, (.slc 2)), (1, (.int IntKind.i64)), (5, (.int IntKind.i64))], [(2, (.arr false ((EK.cpx FloatKind.f32).pair (EK.flt FloatKind.f32))))]⟩, [⟨.ret, [4], ⟨Shs.at 35 [(4, (.int IntKind.i64))], [(2, (.arr false ((EK.cpx FloatKind.f32).pair (EK.flt FloatKind.f32))))]⟩⟩, ⟨.ext 0, [1], ⟨Shs.at 35 [(1, (.int IntKind.i64))], [(2, (.arr false ((EK.cpx FloatKind.f32).pair (EK.flt FloatKind.f32))))]⟩⟩], fun _ => bigN⟩
def loops_heldHL (f k n : Nat) : Option LSpec := bif (Nat.beq f 38 && Nat.beq k 2 && Nat.beq n 1) then some L_heldHL_1 else none
abbrev S_heldHL_1 : Type := ((Nat × (Int × (Int × Unit))) × ((List (((Fl .f32) × (Fl .f32)) × (Fl .f32))) × Unit))
abbrev R_heldHL_1 : Type := (((Int × Unit) × ((List (((Fl .f32) × (Fl .f32)) × (Fl .f32))) × Unit)) ⊕ ((Int × Unit) × ((List (((Fl .f32) × (Fl .f32)) × (Fl .f32))) × Unit)))
noncomputable def B_heldHL_1 (y : S_heldHL_1) : Option (S_heldHL_1 ⊕ R_heldHL_1) := bif decide (y.1.2.2.1 < (y.1.1 : Int)) then (bif inB y.1.2.2.1 y.1.1 then (Option.bind (fconv .f64 .f32 (fofInt .f64 y.1.2.1)) fun (r1 : (Fl .f32)) => (Option.bind (fconv .f64 .f32 (Fl.of .f64 4607182418800017408)) fun (r2 : (Fl .f32)) => (bif !(feq (List.getD y.2.1 (0 + Int.toNat y.1.2.2.1) ((EK.cpx .f32).pair (EK.flt .f32)).dflt).1.1 r1 && feq (List.getD y.2.1 (0 + Int.toNat y.1.2.2.1) ((EK.cpx .f32).pair (EK.flt .f32)).dflt).1.2 r2) then (some (Sum.inr (Sum.inl (((-1, ()), (y.2.1, ())))))) else (bif inB y.1.2.2.1 y.1.1 then (bif fne (List.getD y.2.1 (0 + Int.toNat y.1.2.2.1) ((EK.cpx .f32).pair (EK.flt .f32)).dflt).2 (fofInt .f32 (IntKind.i64.wrap (y.1.2.1 + 1))) then (some (Sum.inr (Sum.inl (((-1, ()), (y.2.1, ())))))) else (some (Sum.inl (((y.1.1, (IntKind.i64.wrap (IntKind.i64.wrap (y.1.2.1 + 1) + 1), (IntKind.i64.wrap (y.1.2.2.1 + 1), ()))), (y.2.1, ())))))) else (none))))) else (none)) else (some (Sum.inr (Sum.inr (((y.1.2.1, ()), (y.2.1, ()))))))
noncomputable def ss_heldHL : List (Nat × FSpec) := []
theorem ssOk_heldHL : FTolds Try.prog ss_heldHL := trivial
noncomputable def Γ_heldHL : Ctx := ctxOf Try.prog tys fs ss_heldHL loops_heldHL
noncomputable def d_heldHL (l : List HaT) (k : Int) : Option (Int) := Option.bind (iter B_heldHL_1 bigN (((l.length, (k, (0, ()))), (l, ())))) fun (r0 : (((Int × Unit) × ((List (((Fl .f32) × (Fl .f32)) × (Fl .f32))) × Unit)) ⊕ ((Int × Unit) × ((List (((Fl .f32) × (Fl .f32)) × (Fl .f32))) × Unit)))) => (match r0 with | .inl x3 => (some (x3.1.1)) | .inr x3 => (some (x3.1.1)))
theorem t_heldHL (l : List HaT) (k : Int) : (fnT Γ_heldHL 10 38 [.list HaE, I64] [I64] (l, k)).den = d_heldHL l k := by kernel_rfl
theorem p_heldHL (l : List HaT) (k : Int) (r : Int) (h : heldHLG (l, k) = some r) : d_heldHL l k = some r := by
  obtain ⟨⟨e, hb, hk⟩, rfl⟩ := if_some (show (if l = hmarks l.length ∧ l.length ≤ 48 ∧ k = 1 then some ((1 + 2 * l.length : Nat) : Int) else none) = some r from h)
  subst hk
  unfold d_heldHL
  have key := iter_for (B := B_heldHL_1) (fun i => ((l.length, (((1 + 2 * i : Nat) : Int), ((i : Int), ()))), (l, ()))) 0 l.length (.inr ((((1 + 2 * l.length : Nat) : Int), ()), (l, ()))) (Nat.zero_le _) (by omega) (fun i _ hi => by
    have g : l.getD i (HaE.dflt) = hmk i := by
      have := mapR_get hmk HaE.dflt hi
      rw [show mapR hmk l.length = l from e.symm] at this; exact this
    have w1 : IntKind.i64.wrap (((1 + 2 * i : Nat) : Int) + 1) = ((2 + 2 * i : Nat) : Int) := by rw [wrap64 (by omega) (by omega)]; omega
    have w2 : IntKind.i64.wrap (((2 + 2 * i : Nat) : Int) + 1) = ((1 + 2 * (i + 1) : Nat) : Int) := by rw [wrap64 (by omega) (by omega)]; omega
    unfold B_heldHL_1
    simp only [ltT hi, inB_of hi, inc64 hi (show l.length < 2 ^ 62 by omega), cond_true, Int.toNat_natCast, Nat.zero_add, wide_int (show 1 ≤ 1 + 2 * i by omega) (show 1 + 2 * i ≤ 1000 by omega), one_conv, Option.bind_some, g, w1, w2]
    unfold hmk
    simp only [feq_ofInt, one_feq, fne_ofInt, Bool.and_self, Bool.not_true, cond_false]) (by
    unfold B_heldHL_1
    simp only [ltF, cond_false])
  exact (congrArg (fun z => Option.bind z _) (show iter B_heldHL_1 bigN _ = _ from key)).trans rfl
theorem s_heldHL : FTold Try.prog 38 heldHLS := walkedF (fs := fs) (ss := ss_heldHL) (loop := loops_heldHL) tysOk mixed fnsOk ssOk_heldHL 10 38 [.list HaE, I64] [I64] rfl _ fun (l, k) r h => (t_heldHL l k).trans (p_heldHL l k r h)
noncomputable def yesBG (_ : Int × Int × Fl .f32) : Option Bool := some true
noncomputable def yesBS : FSpec := ⟨[I64, I64, F32], [.bool], yesBG⟩
def L_lawHa_1 : LSpec := ⟨[0, 1, 5], ⟨Shs.at 31 [(0, (.slc 1077224)), (1, (.int IntKind.i64)), (5, (.int IntKind.i64))], [(1070056, (.arr true ((EK.cpx FloatKind.f32).pair (EK.flt FloatKind.f32)))), (1077224, (.arr true ((EK.cpx FloatKind.f32).pair (EK.flt FloatKind.f32))))]⟩, [⟨.ext 0, [1], ⟨Shs.at 31 [(1, (.int IntKind.i64))], [(1070056, (.arr true ((EK.cpx FloatKind.f32).pair (EK.flt FloatKind.f32)))), (1077224, (.arr true ((EK.cpx FloatKind.f32).pair (EK.flt FloatKind.f32))))]⟩⟩], fun _ => bigN⟩
def loops_lawHa (f k n : Nat) : Option LSpec := bif (Nat.beq f 37 && Nat.beq k 2 && Nat.beq n 1065) then some L_lawHa_1 else none
abbrev S_lawHa_1 : Type := ((Nat × (Int × (Int × Unit))) × ((List (((Fl .f32) × (Fl .f32)) × (Fl .f32))) × ((List (((Fl .f32) × (Fl .f32)) × (Fl .f32))) × Unit)))
abbrev R_lawHa_1 : Type := ((Int × Unit) × ((List (((Fl .f32) × (Fl .f32)) × (Fl .f32))) × ((List (((Fl .f32) × (Fl .f32)) × (Fl .f32))) × Unit)))
noncomputable def B_lawHa_1 (y : S_lawHa_1) : Option (S_lawHa_1 ⊕ R_lawHa_1) := bif decide (y.1.2.2.1 < (y.1.1 : Int)) then (Option.bind (fconv .f64 .f32 (fofInt .f64 y.1.2.1)) fun (r4 : (Fl .f32)) => (Option.bind (fconv .f64 .f32 (Fl.of .f64 4607182418800017408)) fun (r5 : (Fl .f32)) => (bif inB y.1.2.2.1 y.1.1 then (bif inB y.1.2.2.1 y.1.1 then (some (Sum.inl (((y.1.1, (IntKind.i64.wrap (IntKind.i64.wrap (y.1.2.1 + 1) + 1), (IntKind.i64.wrap (y.1.2.2.1 + 1), ()))), (y.2.1, ((List.set y.2.2.1 (0 + Int.toNat y.1.2.2.1) ((r4, r5), (List.getD y.2.2.1 (0 + Int.toNat y.1.2.2.1) ((EK.cpx .f32).pair (EK.flt .f32)).dflt).2)).set (0 + Int.toNat y.1.2.2.1) ((((List.set y.2.2.1 (0 + Int.toNat y.1.2.2.1) ((r4, r5), (List.getD y.2.2.1 (0 + Int.toNat y.1.2.2.1) ((EK.cpx .f32).pair (EK.flt .f32)).dflt).2)).getD (0 + Int.toNat y.1.2.2.1) ((EK.cpx .f32).pair (EK.flt .f32)).dflt).1.1, ((List.set y.2.2.1 (0 + Int.toNat y.1.2.2.1) ((r4, r5), (List.getD y.2.2.1 (0 + Int.toNat y.1.2.2.1) ((EK.cpx .f32).pair (EK.flt .f32)).dflt).2)).getD (0 + Int.toNat y.1.2.2.1) ((EK.cpx .f32).pair (EK.flt .f32)).dflt).1.2), fofInt .f32 (IntKind.i64.wrap (y.1.2.1 + 1))), ())))))) else (none)) else (none)))) else (some (Sum.inr (((y.1.2.1, ()), (y.2.1, (y.2.2.1, ()))))))
noncomputable def ss_lawHa : List (Nat × FSpec) := [(34, haS), (35, haS), (36, selfHLS), (38, heldHLS)]
theorem ssOk_lawHa : FTolds Try.prog ss_lawHa := ⟨s_HalfS, s_HalfI, s_eqHL, s_heldHL, trivial⟩
noncomputable def Γ_lawHa : Ctx := ctxOf Try.prog tys fs ss_lawHa loops_lawHa
noncomputable def d_lawHa (n m : Int) (t : Fl .f32) : Option (Bool) := Option.bind (haG (n, m, t)) fun (r0 : ((List (((Fl .f32) × (Fl .f32)) × (Fl .f32))) × Bool)) => (Option.bind (haG (n, m, t)) fun (r1 : ((List (((Fl .f32) × (Fl .f32)) × (Fl .f32))) × Bool)) => (Option.bind (selfHLG (sub r1.1 0 (List.length r1.1), sub r0.1 0 (List.length r0.1))) fun (r2 : Bool) => (bif !r2 then (some (false)) else (bif !r1.2 == r0.2 then (some (false)) else (Option.bind (iter B_lawHa_1 bigN (((List.length r1.1, (1, (0, ()))), (r0.1, (r1.1, ()))))) fun (r3 : ((Int × Unit) × ((List (((Fl .f32) × (Fl .f32)) × (Fl .f32))) × ((List (((Fl .f32) × (Fl .f32)) × (Fl .f32))) × Unit)))) => (Option.bind (heldHLG (sub r3.2.2.1 0 (List.length r1.1), 1)) fun (r6 : Int) => (bif decide (r6 < 0) then (some (false)) else (bif r6 != r3.1.1 then (some (false)) else (Option.bind (haG (n, m, t)) fun (r7 : ((List (((Fl .f32) × (Fl .f32)) × (Fl .f32))) × Bool)) => (Option.bind (selfHLG (sub r7.1 0 (List.length r7.1), sub r3.2.1 0 (List.length r0.1))) fun (r8 : Bool) => (bif !r8 then (some (false)) else (bif !r7.2 == r0.2 then (some (false)) else (Option.bind (heldHLG (sub r3.2.2.1 0 (List.length r1.1), 1)) fun (r9 : Int) => (bif decide (r9 < 0) then (some (false)) else (bif r9 != r3.1.1 then (some (false)) else (some (true)))))))))))))))))
theorem t_lawHa (n m : Int) (t : Fl .f32) : (fnT Γ_lawHa 10 7 [I64, I64, F32] [.bool] (n, m, t)).den = d_lawHa n m t := by kernel_rfl
theorem set_getD {α : Type} (l : List α) (i : Nat) (a d : α) (h : i < l.length) : (l.set i a).getD i d = a := by
  rw [List.getD_eq_getElem?_getD, List.getElem?_set_self h]; rfl
theorem loop_lawHa {v g : List HaT} (hb : g.length ≤ 48) : iter B_lawHa_1 bigN ((g.length, (1, (0, ()))), (v, (g, ()))) = some ((((1 + 2 * g.length : Nat) : Int), ()), (v, (hmarks g.length, ()))) := by
  have key := iter_for (B := B_lawHa_1) (fun i => ((g.length, (((1 + 2 * i : Nat) : Int), ((i : Int), ()))), (v, (newUp hmk g i, ())))) 0 g.length ((((1 + 2 * g.length : Nat) : Int), ()), (v, (hmarks g.length, ()))) (Nat.zero_le _) (by omega) (fun i _ hi => by
    have w1 : IntKind.i64.wrap (((1 + 2 * i : Nat) : Int) + 1) = ((2 + 2 * i : Nat) : Int) := by rw [wrap64 (by omega) (by omega)]; omega
    have w2 : IntKind.i64.wrap (((2 + 2 * i : Nat) : Int) + 1) = ((1 + 2 * (i + 1) : Nat) : Int) := by rw [wrap64 (by omega) (by omega)]; omega
    have hl : i < (newUp hmk g i).length := by rw [newUp_len _ _ (Nat.le_of_lt hi)]; exact hi
    unfold B_lawHa_1
    simp only [ltT hi, inB_of hi, inc64 hi (show g.length < 2 ^ 62 by omega), cond_true, Int.toNat_natCast, Nat.zero_add, wide_int (show 1 ≤ 1 + 2 * i by omega) (show 1 + 2 * i ≤ 1000 by omega), one_conv, Option.bind_some, w1, w2, set_getD _ _ _ _ hl, List.set_set]
    rw [show ((fofInt .f32 ((1 + 2 * i : Nat) : Int), Fl.of .f32 1065353216), fofInt .f32 ((2 + 2 * i : Nat) : Int)) = hmk i from rfl, newUp_succ hmk g hi]) (by
    unfold B_lawHa_1
    simp only [ltF, cond_false, newUp_end]
    rfl)
  simp only [newUp_zero] at key
  exact key
theorem p_lawHa (n m : Int) (t : Fl .f32) (r : Bool) (h : yesBG (n, m, t) = some r) : d_lawHa n m t = some r := by
  cases h
  have hl := ha_len n m t
  obtain ⟨⟨g, ok⟩, hg⟩ : ∃ z, haF n m t = z := ⟨_, rfl⟩
  rw [hg] at hl
  have l1 : g.length ≤ 48 := hl
  have p3 : haG (n, m, t) = some (g, ok) := congrArg some hg
  have s1 : selfHLG (g, g) = some true := if_pos ⟨rfl, by show g.length < 2 ^ 62; omega⟩
  have e1 : heldHLG (hmarks g.length, 1) = some ((1 + 2 * g.length : Nat) : Int) := by
    have : heldHLG (hmarks g.length, 1) = some ((1 + 2 * (hmarks g.length).length : Nat) : Int) := if_pos ⟨by show _ = hmarks (hmarks g.length).length; rw [hmarks_len], by show (hmarks g.length).length ≤ 48; rw [hmarks_len]; exact l1, rfl⟩
    rw [this, hmarks_len]
  have d1 : decide (((1 + 2 * g.length : Nat) : Int) < 0) = false := decide_eq_false (by omega)
  unfold d_lawHa
  simp only [p3, Option.bind_some, sub_all, s1, Bool.not_true, cond_false, eq_not_self]
  refine (congrArg (fun z => Option.bind z _) (show iter B_lawHa_1 bigN _ = _ from loop_lawHa l1)).trans ?_
  simp only [Option.bind_some, sub_hmarks, e1, d1, cond_false, eq_bne, p3, sub_all, s1, Bool.not_true, eq_not_self]
theorem s_lawHa : FTold Try.prog 7 yesBS := walkedF (fs := fs) (ss := ss_lawHa) (loop := loops_lawHa) tysOk mixed fnsOk ssOk_lawHa 10 7 [I64, I64, F32] [.bool] rfl _ fun (n, m, t) r h => (t_lawHa n m t).trans (p_lawHa n m t r h)
open Go.RowKit Go.ChangeShapes Go.WideShapes Go.ChangeAt
set_option maxRecDepth 100000 in
theorem lifted_lawHa (os : Os) (started : os.Started) (H : Type) (enc : TypeId × Value → H) :
    ReturnsInHanded {} Try.checked os 7 .any (Rows.fnExactHalvesAroundSpec.pre6 enc Try.prog Try.f7 Rows.fnExactHalvesAroundRow.domain false) (Rows.fnExactHalvesAroundSpec.post enc Try.prog Try.f7 false true false false) := by
  refine returnsInHanded_of_change (C := Try.checked) own started (by kernel_rfl) Try.func7
    (ChangeSpec.witness6 (enc := enc) (C := Try.checked) false ⟨#[], #[.int .i64 0, .int .i64 0, .float .f32 0], []⟩ 8 (by kernel_rfl) (by kernel_rfl) (by kernel_rfl) (by kernel_rfl)) ?_
  intro W base args ds gs before hval hW _ _
  exact law_post (P := Try.prog) (fn := Try.f7) (s := Rows.fnExactHalvesAroundSpec) laidOut s_lawHa.out Try.func7 rfl (by kernel_rfl) (by kernel_rfl) (by kernel_rfl) rfl Try.underlying4 rfl (fun ds h => by
    match ds, h with
    | [d0, d1, d2], _ => exact ⟨rfl, rfl, rfl⟩) (fun _ _ => rfl) W base args ds gs before hval hW

theorem over7 : Rows.FnExactHalvesAroundSaid :=
  OpenClaim.holds_of_wide 7 Try.f7 rfl rfl rfl rfl rfl rfl rfl ⟨rfl, rfl, rfl, rfl, rfl⟩ rfl rfl rfl rfl rfl (by kernel_rfl) Try.func7 (by kernel_rfl)
    (of_decide_eq_true (by kernel_rfl)) (by unfold Func.isWrapper; first | (rw [if_pos (by decide +kernel)]; kernel_rfl) | (rw [if_neg (by decide +kernel)]; exact ⟨rfl, rfl⟩))
    (fun os started H enc _ => lifted_lawHa os started H enc)
end Go.Proofs.Ytjggcekliaalgaa
