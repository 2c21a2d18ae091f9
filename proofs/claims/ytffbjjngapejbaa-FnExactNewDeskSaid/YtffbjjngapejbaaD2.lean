/- Desks: the same, copied, counted. No condition. -/
import Derived.Test.YtffbjjngapejbaaD1
import Derived.Test.YtffbjjngapejbaaLE
namespace Go.Proofs.Ytffbjjngapejbaa
open Go.Ab
abbrev LI : Type := List Int
abbrev L64 : DS := .list (.int .i64)
abbrev FieldD : DS := .agg [I64, I64, .bool, L32]
abbrev MeltD : DS := .agg [I64, I64, .bool, L32, I64, I64, .bool, L32, F32, F32, F32, F32, F32, I64]
abbrev GrD : DS := .agg [I64, I64, L64]
abbrev FlD : DS := .agg [I64, L32]
abbrev DeskD : DS := .agg [I64, I64, .bool, L32, I64, I64, .bool, L32, F32, F32, F32, F32, F32, I64, I64, I64, L64, I64, L32, I64]
abbrev FieldT : Type := Int × Int × Bool × LS
abbrev MeltT : Type := Int × Int × Bool × LS × Int × Int × Bool × LS × Fl .f32 × Fl .f32 × Fl .f32 × Fl .f32 × Fl .f32 × Int
abbrev GrT : Type := Int × Int × LI
abbrev FlT : Type := Int × LS
abbrev DeskT : Type := Int × Int × Bool × LS × Int × Int × Bool × LS × Fl .f32 × Fl .f32 × Fl .f32 × Fl .f32 × Fl .f32 × Int × Int × Int × LI × Int × LS × Int
theorem beqD (a b : Int) : (a == b) = decide (a = b) := by by_cases h : a = b <;> simp [h]
theorem beqB (a b : Bool) : (a == b) = decide (a = b) := by cases a <;> cases b <;> rfl
theorem bif_iff {b : Bool} {p q : Prop} {t : Option Bool} (hb : b = true ↔ p) (ht : ∃ c, t = some c ∧ (c = true ↔ q)) : ∃ c, (bif b then t else some false) = some c ∧ (c = true ↔ p ∧ q) := by
  obtain ⟨c, h1, h2⟩ := ht
  cases b with
  | true => exact ⟨c, h1, by rw [h2]; exact ⟨fun h => ⟨hb.1 rfl, h⟩, fun h => h.2⟩⟩
  | false => exact ⟨false, rfl, ⟨fun h => (by cases h), fun h => (by have := hb.2 h.1; cases this)⟩⟩
theorem end_iff {b : Bool} {p : Prop} (hb : b = true ↔ p) : ∃ c, some b = some c ∧ (c = true ↔ p) := ⟨b, rfl, hb⟩
theorem tree_iff {t : Option Bool} {r : Bool} {p q : Prop} (h : ∃ c, t = some c ∧ (c = true ↔ q)) (hr : r = true ↔ p) (hpq : p ↔ q) : t = some r := by
  obtain ⟨c, h1, h2⟩ := h
  rw [h1, show c = r from Bool.eq_iff_iff.2 (h2.trans (hpq.symm.trans hr.symm))]
theorem beq_iff (a b : Int) : (a == b) = true ↔ a = b := by rw [beqD]; exact decide_eq_true_iff
set_option maxRecDepth 100000 in
theorem s_bits32 : FTold Try.prog 173 bits32S := ftold (bits32_ok (fn := Try.f173) Try.func173 rfl rfl rfl rfl)
def sameG (x : Fl .f32 × Fl .f32) : Option Bool := some (sameF x.1 x.2)
def sameS : FSpec := ⟨[F32, F32], [.bool], sameG⟩
def loops_l01Same (_ _ _ : Nat) : Option LSpec := none
noncomputable def ss_l01Same : List (Nat × FSpec) := [(173, bits32S)]
theorem ssOk_l01Same : FTolds Try.prog ss_l01Same := ⟨s_bits32, trivial⟩
noncomputable def Γ_l01Same : Ctx := ctxOf Try.prog tys fs ss_l01Same loops_l01Same
noncomputable def d_l01Same (x y : Fl .f32) : Option (Bool) := bif fne x x then (bif fne y y then (some (true)) else (Option.bind (fbits .f32 y) fun (r0 : Int) => (some (2143289344 == IntKind.i64.wrap r0)))) else (Option.bind (fbits .f32 x) fun (r1 : Int) => (bif fne y y then (some (IntKind.i64.wrap r1 == 2143289344)) else (Option.bind (fbits .f32 y) fun (r2 : Int) => (some (IntKind.i64.wrap r1 == IntKind.i64.wrap r2)))))
theorem t_l01Same (x y : Fl .f32) : (fnT Γ_l01Same 10 110 [F32, F32] [.bool] (x, y)).den = d_l01Same x y := by kernel_rfl
theorem p_l01Same (x y : Fl .f32) (r : Bool) (h : sameG (x, y) = some r) : d_l01Same x y = some r := by
  exact (same_tree1 x y).trans h
theorem s_l01Same : FTold Try.prog 110 sameS := walkedF (fs := fs) (ss := ss_l01Same) (loop := loops_l01Same) tysOk mixed fnsOk ssOk_l01Same 10 110 [F32, F32] [.bool] rfl _ fun (x, y) r h => (t_l01Same x y).trans (p_l01Same x y r h)
def loops_SameNumber (_ _ _ : Nat) : Option LSpec := none
noncomputable def ss_SameNumber : List (Nat × FSpec) := [(178, bits64S)]
theorem ssOk_SameNumber : FTolds Try.prog ss_SameNumber := ⟨s_bits64, trivial⟩
noncomputable def Γ_SameNumber : Ctx := ctxOf Try.prog tys fs ss_SameNumber loops_SameNumber
noncomputable def d_SameNumber (x y : Fl .f32) : Option (Bool) := bif fne x x then (bif fne x x then (some (fne y y)) else (some (false))) else (bif fne y y then (bif fne x x then (some (fne y y)) else (some (false))) else (bif feq x y then (Option.bind (fbits .f64 (fwide x)) fun (r0 : Int) => (Option.bind (fbits .f64 (fwide y)) fun (r1 : Int) => (some (decide (IntKind.i64.wrap r0 < 0) == decide (IntKind.i64.wrap r1 < 0))))) else (some (false))))
theorem t_SameNumber (x y : Fl .f32) : (fnT Γ_SameNumber 10 158 [F32, F32] [.bool] (x, y)).den = d_SameNumber x y := by kernel_rfl
theorem p_SameNumber (x y : Fl .f32) (r : Bool) (h : sameG (x, y) = some r) : d_SameNumber x y = some r := by
  exact (same_tree2 x y).trans h
theorem s_SameNumber : FTold Try.prog 158 sameS := walkedF (fs := fs) (ss := ss_SameNumber) (loop := loops_SameNumber) tysOk mixed fnsOk ssOk_SameNumber 10 158 [F32, F32] [.bool] rfl _ fun (x, y) r h => (t_SameNumber x y).trans (p_SameNumber x y r h)
def eqLG (x : LS × LS) : Option Bool := if x.1.length < 2 ^ 62 then some (decide (x.1 = x.2)) else none
def eqLS : FSpec := ⟨[L32, L32], [.bool], eqLG⟩
def L_l01SameAll_1 : LSpec := ⟨[0, 1, 5], ⟨Shs.at 27 [(0, (.slc 2)), (1, (.slc 3)), (5, (.int IntKind.i64))], [(2, (.arr false (EK.flt FloatKind.f32))), (3, (.arr false (EK.flt FloatKind.f32)))]⟩, [⟨.ret, [4], ⟨Shs.at 27 [(4, .bool)], [(2, (.arr false (EK.flt FloatKind.f32))), (3, (.arr false (EK.flt FloatKind.f32)))]⟩⟩, ⟨.ext 0, [], ⟨Shs.at 27 [], [(2, (.arr false (EK.flt FloatKind.f32))), (3, (.arr false (EK.flt FloatKind.f32)))]⟩⟩], fun _ => bigN⟩
def loops_l01SameAll (f k n : Nat) : Option LSpec := bif (Nat.beq f 112 && Nat.beq k 4 && Nat.beq n 1) then some L_l01SameAll_1 else none
abbrev S_l01SameAll_1 : Type := ((Nat × (Nat × (Int × Unit))) × ((List (Fl .f32)) × ((List (Fl .f32)) × Unit)))
abbrev R_l01SameAll_1 : Type := (((Bool × Unit) × ((List (Fl .f32)) × ((List (Fl .f32)) × Unit))) ⊕ (Unit × ((List (Fl .f32)) × ((List (Fl .f32)) × Unit))))
noncomputable def B_l01SameAll_1 (y : S_l01SameAll_1) : Option (S_l01SameAll_1 ⊕ R_l01SameAll_1) := bif decide (y.1.2.2.1 < (y.1.1 : Int)) then (bif inB y.1.2.2.1 y.1.1 then (bif inB y.1.2.2.1 y.1.2.1 then (Option.bind (sameG (List.getD y.2.1 (0 + Int.toNat y.1.2.2.1) dN, List.getD y.2.2.1 (0 + Int.toNat y.1.2.2.1) dN)) fun (r1 : Bool) => (bif !r1 then (some (Sum.inr (Sum.inl (((false, ()), (y.2.1, (y.2.2.1, ()))))))) else (some (Sum.inl (((y.1.1, (y.1.2.1, (IntKind.i64.wrap (y.1.2.2.1 + 1), ()))), (y.2.1, (y.2.2.1, ())))))))) else (none)) else (none)) else (some (Sum.inr (Sum.inr (((), (y.2.1, (y.2.2.1, ())))))))
noncomputable def ss_l01SameAll : List (Nat × FSpec) := [(110, sameS)]
theorem ssOk_l01SameAll : FTolds Try.prog ss_l01SameAll := ⟨s_l01Same, trivial⟩
noncomputable def Γ_l01SameAll : Ctx := ctxOf Try.prog tys fs ss_l01SameAll loops_l01SameAll
noncomputable def d_l01SameAll (l m : LS) : Option (Bool) := bif ((List.length l : Nat) : Int) != ((List.length m : Nat) : Int) then (some (false)) else (Option.bind (iter B_l01SameAll_1 bigN (((List.length l, (List.length m, (0, ()))), (l, (m, ()))))) fun (r0 : (((Bool × Unit) × ((List (Fl .f32)) × ((List (Fl .f32)) × Unit))) ⊕ (Unit × ((List (Fl .f32)) × ((List (Fl .f32)) × Unit))))) => (match r0 with | .inl x2 => (some (x2.1.1)) | .inr x2 => (some (true))))
theorem t_l01SameAll (l m : LS) : (fnT Γ_l01SameAll 10 112 [L32, L32] [.bool] (l, m)).den = d_l01SameAll l m := by kernel_rfl
theorem p_l01SameAll (l m : LS) (r : Bool) (h : eqLG (l, m) = some r) : d_l01SameAll l m = some r := by
  obtain ⟨hb, rfl⟩ := if_some (show (if List.length l < 2 ^ 62 then some (decide (l = m)) else none) = some r from h)
  unfold d_l01SameAll
  by_cases hl : List.length l = List.length m
  · have h0 : ((List.length l : Int) != (List.length m : Int)) = false := by simp [hl]
    rw [h0, cond_false]
    have key := iter_find' (B := B_l01SameAll_1) (fun i => ((List.length l, (List.length m, ((i : Int), ()))), (l, (m, ())))) 0 (List.length l) (fun i => if List.getD l i dN = List.getD m i dN then none else some (.inl ((false, ()), (l, (m, ()))))) (.inr ((), (l, (m, ())))) (Nat.zero_le _) hb (fun i _ hi => by
      unfold B_l01SameAll_1 sameG sameF
      simp only [ltT hi, inB_of hi, inB_of (show i < List.length m by omega), inc64 hi hb, cond_true, Int.toNat_natCast, Nat.zero_add, Option.bind_some]
      by_cases e : List.getD l i dN = List.getD m i dN
      · rw [if_pos e, decide_eq_true e]; rfl
      · rw [if_neg e, decide_eq_false e]; rfl) (by
      unfold B_l01SameAll_1
      simp only [ltF, cond_false])
    refine (congrArg (fun z => Option.bind z _) (show iter B_l01SameAll_1 bigN _ = _ from key)).trans ?_
    rw [Nat.sub_zero, show firstOf (fun i => if List.getD l i dN = List.getD m i dN then none else some (.inl ((false, ()), (l, (m, ()))) : R_l01SameAll_1)) (List.length l) 0 = _ from lists_same dN l m hl _]
    by_cases e : l = m
    · rw [if_pos e]; simp [e]
    · rw [if_neg e]; simp [e]
  · have h0 : ((List.length l : Int) != (List.length m : Int)) = true := by simp; omega
    have hne : ¬ l = m := fun e => hl (by rw [e])
    rw [h0, cond_true]; simp [hne]
theorem s_l01SameAll : FTold Try.prog 112 eqLS := walkedF (fs := fs) (ss := ss_l01SameAll) (loop := loops_l01SameAll) tysOk mixed fnsOk ssOk_l01SameAll 10 112 [L32, L32] [.bool] rfl _ fun (l, m) r h => (t_l01SameAll l m).trans (p_l01SameAll l m r h)
def L_sameNumbers_1 : LSpec := ⟨[1, 2, 15, 16, 17], ⟨Shs.at 32 [(1, (.slc 3)), (2, (.fn (Fn.func 158) .nil .nil)), (15, (.slc 2)), (16, (.int IntKind.i64)), (17, (.int IntKind.i64))], [(2, (.arr false (EK.flt FloatKind.f32))), (3, (.arr false (EK.flt FloatKind.f32)))]⟩, [⟨.ret, [6], ⟨Shs.at 32 [(6, .bool)], [(2, (.arr false (EK.flt FloatKind.f32))), (3, (.arr false (EK.flt FloatKind.f32)))]⟩⟩, ⟨.ext 0, [], ⟨Shs.at 32 [], [(2, (.arr false (EK.flt FloatKind.f32))), (3, (.arr false (EK.flt FloatKind.f32)))]⟩⟩], fun _ => bigN⟩
def loops_sameNumbers (f k n : Nat) : Option LSpec := bif (Nat.beq f 157 && Nat.beq k 4 && Nat.beq n 1032) then some L_sameNumbers_1 else none
abbrev S_sameNumbers_1 : Type := ((Nat × ((Unit × Unit) × (Nat × (Int × (Int × Unit))))) × ((List (Fl .f32)) × ((List (Fl .f32)) × Unit)))
abbrev R_sameNumbers_1 : Type := (((Bool × Unit) × ((List (Fl .f32)) × ((List (Fl .f32)) × Unit))) ⊕ (Unit × ((List (Fl .f32)) × ((List (Fl .f32)) × Unit))))
noncomputable def B_sameNumbers_1 (y : S_sameNumbers_1) : Option (S_sameNumbers_1 ⊕ R_sameNumbers_1) := bif decide (y.1.2.2.2.2.1 < y.1.2.2.2.1) then (bif inB y.1.2.2.2.2.1 y.1.2.2.1 then (bif inB y.1.2.2.2.2.1 y.1.1 then (Option.bind (sameG (List.getD y.2.1 (0 + Int.toNat y.1.2.2.2.2.1) dN, List.getD y.2.2.1 (0 + Int.toNat y.1.2.2.2.2.1) dN)) fun (r1 : Bool) => (bif !r1 then (some (Sum.inr (Sum.inl (((false, ()), (y.2.1, (y.2.2.1, ()))))))) else (some (Sum.inl (((y.1.1, (((), ()), (y.1.2.2.1, (y.1.2.2.2.1, (IntKind.i64.wrap (y.1.2.2.2.2.1 + 1), ()))))), (y.2.1, (y.2.2.1, ())))))))) else (none)) else (none)) else (some (Sum.inr (Sum.inr (((), (y.2.1, (y.2.2.1, ())))))))
noncomputable def ss_sameNumbers : List (Nat × FSpec) := [(158, sameS)]
theorem ssOk_sameNumbers : FTolds Try.prog ss_sameNumbers := ⟨s_SameNumber, trivial⟩
noncomputable def Γ_sameNumbers : Ctx := ctxOf Try.prog tys fs ss_sameNumbers loops_sameNumbers
noncomputable def d_sameNumbers (l m : LS) : Option (Bool) := bif ((List.length l : Nat) : Int) != ((List.length m : Nat) : Int) then (some (false)) else (Option.bind (iter B_sameNumbers_1 bigN (((List.length m, (((), ()), (List.length l, (((List.length l : Nat) : Int), (0, ()))))), (l, (m, ()))))) fun (r0 : (((Bool × Unit) × ((List (Fl .f32)) × ((List (Fl .f32)) × Unit))) ⊕ (Unit × ((List (Fl .f32)) × ((List (Fl .f32)) × Unit))))) => (match r0 with | .inl x2 => (some (x2.1.1)) | .inr x2 => (some (true))))
theorem t_sameNumbers (l m : LS) : (fnT Γ_sameNumbers 10 116 [L32, L32] [.bool] (l, m)).den = d_sameNumbers l m := by kernel_rfl
theorem p_sameNumbers (l m : LS) (r : Bool) (h : eqLG (l, m) = some r) : d_sameNumbers l m = some r := by
  obtain ⟨hb, rfl⟩ := if_some (show (if List.length l < 2 ^ 62 then some (decide (l = m)) else none) = some r from h)
  unfold d_sameNumbers
  by_cases hl : List.length l = List.length m
  · have h0 : ((List.length l : Int) != (List.length m : Int)) = false := by simp [hl]
    rw [h0, cond_false]
    have key := iter_find' (B := B_sameNumbers_1) (fun i => ((List.length m, (((), ()), (List.length l, ((List.length l : Int), ((i : Int), ()))))), (l, (m, ())))) 0 (List.length l) (fun i => if List.getD l i dN = List.getD m i dN then none else some (.inl ((false, ()), (l, (m, ()))))) (.inr ((), (l, (m, ())))) (Nat.zero_le _) hb (fun i _ hi => by
      unfold B_sameNumbers_1 sameG sameF
      simp only [ltT hi, inB_of hi, inB_of (show i < List.length m by omega), inc64 hi hb, cond_true, Int.toNat_natCast, Nat.zero_add, Option.bind_some]
      by_cases e : List.getD l i dN = List.getD m i dN
      · rw [if_pos e, decide_eq_true e]; rfl
      · rw [if_neg e, decide_eq_false e]; rfl) (by
      unfold B_sameNumbers_1
      simp only [ltF, cond_false])
    refine (congrArg (fun z => Option.bind z _) (show iter B_sameNumbers_1 bigN _ = _ from key)).trans ?_
    rw [Nat.sub_zero, show firstOf (fun i => if List.getD l i dN = List.getD m i dN then none else some (.inl ((false, ()), (l, (m, ()))) : R_sameNumbers_1)) (List.length l) 0 = _ from lists_same dN l m hl _]
    by_cases e : l = m
    · rw [if_pos e]; simp [e]
    · rw [if_neg e]; simp [e]
  · have h0 : ((List.length l : Int) != (List.length m : Int)) = true := by simp; omega
    have hne : ¬ l = m := fun e => hl (by rw [e])
    rw [h0, cond_true]; simp [hne]
theorem s_sameNumbers : FTold Try.prog 116 eqLS := walkedF (fs := fs) (ss := ss_sameNumbers) (loop := loops_sameNumbers) tysOk mixed fnsOk ssOk_sameNumbers 10 116 [L32, L32] [.bool] rfl _ fun (l, m) r h => (t_sameNumbers l m).trans (p_sameNumbers l m r h)
def eqIG (x : LI × LI) : Option Bool := if x.1.length < 2 ^ 62 then some (decide (x.1 = x.2)) else none
def eqIS : FSpec := ⟨[L64, L64], [.bool], eqIG⟩
def L_l00Same_1 : LSpec := ⟨[0, 1, 5], ⟨Shs.at 26 [(0, (.slc 2)), (1, (.slc 3)), (5, (.int IntKind.i64))], [(2, (.arr false (EK.int IntKind.i64))), (3, (.arr false (EK.int IntKind.i64)))]⟩, [⟨.ret, [4], ⟨Shs.at 26 [(4, .bool)], [(2, (.arr false (EK.int IntKind.i64))), (3, (.arr false (EK.int IntKind.i64)))]⟩⟩, ⟨.ext 0, [], ⟨Shs.at 26 [], [(2, (.arr false (EK.int IntKind.i64))), (3, (.arr false (EK.int IntKind.i64)))]⟩⟩], fun _ => bigN⟩
def loops_l00Same (f k n : Nat) : Option LSpec := bif (Nat.beq f 111 && Nat.beq k 4 && Nat.beq n 1) then some L_l00Same_1 else none
abbrev S_l00Same_1 : Type := ((Nat × (Nat × (Int × Unit))) × ((List Int) × ((List Int) × Unit)))
abbrev R_l00Same_1 : Type := (((Bool × Unit) × ((List Int) × ((List Int) × Unit))) ⊕ (Unit × ((List Int) × ((List Int) × Unit))))
noncomputable def B_l00Same_1 (y : S_l00Same_1) : Option (S_l00Same_1 ⊕ R_l00Same_1) := bif decide (y.1.2.2.1 < (y.1.1 : Int)) then (bif inB y.1.2.2.1 y.1.1 then (bif inB y.1.2.2.1 y.1.2.1 then (bif List.getD y.2.1 (0 + Int.toNat y.1.2.2.1) (0 : Int) != List.getD y.2.2.1 (0 + Int.toNat y.1.2.2.1) (0 : Int) then (some (Sum.inr (Sum.inl (((false, ()), (y.2.1, (y.2.2.1, ()))))))) else (some (Sum.inl (((y.1.1, (y.1.2.1, (IntKind.i64.wrap (y.1.2.2.1 + 1), ()))), (y.2.1, (y.2.2.1, ()))))))) else (none)) else (none)) else (some (Sum.inr (Sum.inr (((), (y.2.1, (y.2.2.1, ())))))))
noncomputable def ss_l00Same : List (Nat × FSpec) := []
theorem ssOk_l00Same : FTolds Try.prog ss_l00Same := trivial
noncomputable def Γ_l00Same : Ctx := ctxOf Try.prog tys fs ss_l00Same loops_l00Same
noncomputable def d_l00Same (l m : LI) : Option (Bool) := bif ((List.length l : Nat) : Int) != ((List.length m : Nat) : Int) then (some (false)) else (Option.bind (iter B_l00Same_1 bigN (((List.length l, (List.length m, (0, ()))), (l, (m, ()))))) fun (r0 : (((Bool × Unit) × ((List Int) × ((List Int) × Unit))) ⊕ (Unit × ((List Int) × ((List Int) × Unit))))) => (match r0 with | .inl x1 => (some (x1.1.1)) | .inr x1 => (some (true))))
theorem t_l00Same (l m : LI) : (fnT Γ_l00Same 10 111 [L64, L64] [.bool] (l, m)).den = d_l00Same l m := by kernel_rfl
theorem p_l00Same (l m : LI) (r : Bool) (h : eqIG (l, m) = some r) : d_l00Same l m = some r := by
  obtain ⟨hb, rfl⟩ := if_some (show (if List.length l < 2 ^ 62 then some (decide (l = m)) else none) = some r from h)
  unfold d_l00Same
  by_cases hl : List.length l = List.length m
  · have h0 : ((List.length l : Int) != (List.length m : Int)) = false := by simp [hl]
    rw [h0, cond_false]
    have key := iter_find' (B := B_l00Same_1) (fun i => ((List.length l, (List.length m, ((i : Int), ()))), (l, (m, ())))) 0 (List.length l) (fun i => if List.getD l i (0 : Int) = List.getD m i (0 : Int) then none else some (.inl ((false, ()), (l, (m, ()))))) (.inr ((), (l, (m, ())))) (Nat.zero_le _) hb (fun i _ hi => by
      unfold B_l00Same_1
      simp only [ltT hi, inB_of hi, inB_of (show i < List.length m by omega), inc64 hi hb, cond_true, Int.toNat_natCast, Nat.zero_add, Option.bind_some]
      by_cases e : List.getD l i (0 : Int) = List.getD m i (0 : Int)
      · rw [if_pos e, show (List.getD l i (0 : Int) != List.getD m i (0 : Int)) = false by rw [e]; exact bne_self_eq_false _]; rfl
      · rw [if_neg e, show (List.getD l i (0 : Int) != List.getD m i (0 : Int)) = true from bne_iff_ne.2 e]; rfl) (by
      unfold B_l00Same_1
      simp only [ltF, cond_false])
    refine (congrArg (fun z => Option.bind z _) (show iter B_l00Same_1 bigN _ = _ from key)).trans ?_
    rw [Nat.sub_zero, show firstOf (fun i => if List.getD l i (0 : Int) = List.getD m i (0 : Int) then none else some (.inl ((false, ()), (l, (m, ()))) : R_l00Same_1)) (List.length l) 0 = _ from lists_same (0 : Int) l m hl _]
    by_cases e : l = m
    · rw [if_pos e]; simp [e]
    · rw [if_neg e]; simp [e]
  · have h0 : ((List.length l : Int) != (List.length m : Int)) = true := by simp; omega
    have hne : ¬ l = m := fun e => hl (by rw [e])
    rw [h0, cond_true]; simp [hne]
theorem s_l00Same : FTold Try.prog 111 eqIS := walkedF (fs := fs) (ss := ss_l00Same) (loop := loops_l00Same) tysOk mixed fnsOk ssOk_l00Same 10 111 [L64, L64] [.bool] rfl _ fun (l, m) r h => (t_l00Same l m).trans (p_l00Same l m r h)
def L_Equal_1 : LSpec := ⟨[0, 1, 12, 13], ⟨Shs.at 26 [(0, (.slc 2)), (1, (.slc 3)), (12, (.int IntKind.i64)), (13, (.int IntKind.i64))], [(2, (.arr false (EK.int IntKind.i64))), (3, (.arr false (EK.int IntKind.i64)))]⟩, [⟨.ret, [4], ⟨Shs.at 26 [(4, .bool)], [(2, (.arr false (EK.int IntKind.i64))), (3, (.arr false (EK.int IntKind.i64)))]⟩⟩, ⟨.ext 0, [], ⟨Shs.at 26 [], [(2, (.arr false (EK.int IntKind.i64))), (3, (.arr false (EK.int IntKind.i64)))]⟩⟩], fun _ => bigN⟩
def loops_Equal (f k n : Nat) : Option LSpec := bif (Nat.beq f 106 && Nat.beq k 4 && Nat.beq n 1) then some L_Equal_1 else none
abbrev S_Equal_1 : Type := ((Nat × (Nat × (Int × (Int × Unit)))) × ((List Int) × ((List Int) × Unit)))
abbrev R_Equal_1 : Type := (((Bool × Unit) × ((List Int) × ((List Int) × Unit))) ⊕ (Unit × ((List Int) × ((List Int) × Unit))))
noncomputable def B_Equal_1 (y : S_Equal_1) : Option (S_Equal_1 ⊕ R_Equal_1) := bif decide (y.1.2.2.2.1 < y.1.2.2.1) then (bif inB y.1.2.2.2.1 y.1.1 then (bif inB y.1.2.2.2.1 y.1.2.1 then (bif List.getD y.2.1 (0 + Int.toNat y.1.2.2.2.1) (0 : Int) != List.getD y.2.2.1 (0 + Int.toNat y.1.2.2.2.1) (0 : Int) then (some (Sum.inr (Sum.inl (((false, ()), (y.2.1, (y.2.2.1, ()))))))) else (some (Sum.inl (((y.1.1, (y.1.2.1, (y.1.2.2.1, (IntKind.i64.wrap (y.1.2.2.2.1 + 1), ())))), (y.2.1, (y.2.2.1, ()))))))) else (none)) else (none)) else (some (Sum.inr (Sum.inr (((), (y.2.1, (y.2.2.1, ())))))))
noncomputable def ss_Equal : List (Nat × FSpec) := []
theorem ssOk_Equal : FTolds Try.prog ss_Equal := trivial
noncomputable def Γ_Equal : Ctx := ctxOf Try.prog tys fs ss_Equal loops_Equal
noncomputable def d_Equal (l m : LI) : Option (Bool) := bif ((List.length l : Nat) : Int) != ((List.length m : Nat) : Int) then (some (false)) else (Option.bind (iter B_Equal_1 bigN (((List.length l, (List.length m, (((List.length l : Nat) : Int), (0, ())))), (l, (m, ()))))) fun (r0 : (((Bool × Unit) × ((List Int) × ((List Int) × Unit))) ⊕ (Unit × ((List Int) × ((List Int) × Unit))))) => (match r0 with | .inl x1 => (some (x1.1.1)) | .inr x1 => (some (true))))
theorem t_Equal (l m : LI) : (fnT Γ_Equal 10 106 [L64, L64] [.bool] (l, m)).den = d_Equal l m := by kernel_rfl
theorem p_Equal (l m : LI) (r : Bool) (h : eqIG (l, m) = some r) : d_Equal l m = some r := by
  obtain ⟨hb, rfl⟩ := if_some (show (if List.length l < 2 ^ 62 then some (decide (l = m)) else none) = some r from h)
  unfold d_Equal
  by_cases hl : List.length l = List.length m
  · have h0 : ((List.length l : Int) != (List.length m : Int)) = false := by simp [hl]
    rw [h0, cond_false]
    have key := iter_find' (B := B_Equal_1) (fun i => ((List.length l, (List.length m, ((List.length l : Int), ((i : Int), ())))), (l, (m, ())))) 0 (List.length l) (fun i => if List.getD l i (0 : Int) = List.getD m i (0 : Int) then none else some (.inl ((false, ()), (l, (m, ()))))) (.inr ((), (l, (m, ())))) (Nat.zero_le _) hb (fun i _ hi => by
      unfold B_Equal_1
      simp only [ltT hi, inB_of hi, inB_of (show i < List.length m by omega), inc64 hi hb, cond_true, Int.toNat_natCast, Nat.zero_add, Option.bind_some]
      by_cases e : List.getD l i (0 : Int) = List.getD m i (0 : Int)
      · rw [if_pos e, show (List.getD l i (0 : Int) != List.getD m i (0 : Int)) = false by rw [e]; exact bne_self_eq_false _]; rfl
      · rw [if_neg e, show (List.getD l i (0 : Int) != List.getD m i (0 : Int)) = true from bne_iff_ne.2 e]; rfl) (by
      unfold B_Equal_1
      simp only [ltF, cond_false])
    refine (congrArg (fun z => Option.bind z _) (show iter B_Equal_1 bigN _ = _ from key)).trans ?_
    rw [Nat.sub_zero, show firstOf (fun i => if List.getD l i (0 : Int) = List.getD m i (0 : Int) then none else some (.inl ((false, ()), (l, (m, ()))) : R_Equal_1)) (List.length l) 0 = _ from lists_same (0 : Int) l m hl _]
    by_cases e : l = m
    · rw [if_pos e]; simp [e]
    · rw [if_neg e]; simp [e]
  · have h0 : ((List.length l : Int) != (List.length m : Int)) = true := by simp; omega
    have hne : ¬ l = m := fun e => hl (by rw [e])
    rw [h0, cond_true]; simp [hne]
theorem s_Equal : FTold Try.prog 106 eqIS := walkedF (fs := fs) (ss := ss_Equal) (loop := loops_Equal) tysOk mixed fnsOk ssOk_Equal 10 106 [L64, L64] [.bool] rfl _ fun (l, m) r h => (t_Equal l m).trans (p_Equal l m r h)
def alikeG (x : FieldT × FieldT) : Option Bool := some (decide (x.1.1 = x.2.1) && decide (x.1.2.1 = x.2.2.1) && decide (x.1.2.2.1 = x.2.2.2.1))
def alikeS : FSpec := ⟨[FieldD, FieldD], [.bool], alikeG⟩
def alikePG (x : FieldT × FieldT) : Option Bool := alikeG x
def alikePS : FSpec := ⟨[.ptr FieldD, .ptr FieldD], [.bool], alikePG⟩
def loops_alike (_ _ _ : Nat) : Option LSpec := none
noncomputable def ss_alike : List (Nat × FSpec) := []
theorem ssOk_alike : FTolds Try.prog ss_alike := trivial
noncomputable def Γ_alike : Ctx := ctxOf Try.prog tys fs ss_alike loops_alike
noncomputable def d_alike (w1 : Int) (h1 : Int) (o1 : Bool) (v1 : LS) (w1q : Int) (h1q : Int) (o1q : Bool) (v1q : LS) : Option (Bool) := bif w1 == w1q then (bif h1 == h1q then (some (o1 == o1q)) else (some (false))) else (some (false))
theorem t_alike (w1 : Int) (h1 : Int) (o1 : Bool) (v1 : LS) (w1q : Int) (h1q : Int) (o1q : Bool) (v1q : LS) : (fnT Γ_alike 10 123 [FieldD, FieldD] [.bool] ((w1, h1, o1, v1), (w1q, h1q, o1q, v1q))).den = d_alike w1 h1 o1 v1 w1q h1q o1q v1q := by kernel_rfl
theorem p_alike (w1 : Int) (h1 : Int) (o1 : Bool) (v1 : LS) (w1q : Int) (h1q : Int) (o1q : Bool) (v1q : LS) (r : Bool) (h : alikeG ((w1, h1, o1, v1), (w1q, h1q, o1q, v1q)) = some r) : d_alike w1 h1 o1 v1 w1q h1q o1q v1q = some r := by
  refine Eq.trans ?_ h
  show d_alike w1 h1 o1 v1 w1q h1q o1q v1q = some (decide (w1 = w1q) && decide (h1 = h1q) && decide (o1 = o1q))
  unfold d_alike
  by_cases e1 : w1 = w1q <;> by_cases e2 : h1 = h1q <;> by_cases e3 : o1 = o1q <;> simp [beqD, beqB, e1, e2, e3]
theorem s_alike : FTold Try.prog 123 alikeS := walkedF (fs := fs) (ss := ss_alike) (loop := loops_alike) tysOk mixed fnsOk ssOk_alike 10 123 [FieldD, FieldD] [.bool] rfl _ fun ((w1, h1, o1, v1), (w1q, h1q, o1q, v1q)) r h => (t_alike w1 h1 o1 v1 w1q h1q o1q v1q).trans (p_alike w1 h1 o1 v1 w1q h1q o1q v1q r h)
def loops_l02Alike (_ _ _ : Nat) : Option LSpec := none
noncomputable def ss_l02Alike : List (Nat × FSpec) := []
theorem ssOk_l02Alike : FTolds Try.prog ss_l02Alike := trivial
noncomputable def Γ_l02Alike : Ctx := ctxOf Try.prog tys fs ss_l02Alike loops_l02Alike
noncomputable def d_l02Alike (w1 : Int) (h1 : Int) (o1 : Bool) (v1 : LS) (w1q : Int) (h1q : Int) (o1q : Bool) (v1q : LS) : Option (Bool) := bif w1 == w1q then (bif h1 == h1q then (some (o1 == o1q)) else (some (false))) else (some (false))
theorem t_l02Alike (w1 : Int) (h1 : Int) (o1 : Bool) (v1 : LS) (w1q : Int) (h1q : Int) (o1q : Bool) (v1q : LS) : (fnT Γ_l02Alike 10 155 [.ptr FieldD, .ptr FieldD] [.bool] ((w1, h1, o1, v1), (w1q, h1q, o1q, v1q))).den = d_l02Alike w1 h1 o1 v1 w1q h1q o1q v1q := by kernel_rfl
theorem p_l02Alike (w1 : Int) (h1 : Int) (o1 : Bool) (v1 : LS) (w1q : Int) (h1q : Int) (o1q : Bool) (v1q : LS) (r : Bool) (h : alikePG ((w1, h1, o1, v1), (w1q, h1q, o1q, v1q)) = some r) : d_l02Alike w1 h1 o1 v1 w1q h1q o1q v1q = some r := by
  refine Eq.trans ?_ h
  show d_l02Alike w1 h1 o1 v1 w1q h1q o1q v1q = some (decide (w1 = w1q) && decide (h1 = h1q) && decide (o1 = o1q))
  unfold d_l02Alike
  by_cases e1 : w1 = w1q <;> by_cases e2 : h1 = h1q <;> by_cases e3 : o1 = o1q <;> simp [beqD, beqB, e1, e2, e3]
theorem s_l02Alike : FTold Try.prog 155 alikePS := walkedF (fs := fs) (ss := ss_l02Alike) (loop := loops_l02Alike) tysOk mixed fnsOk ssOk_l02Alike 10 155 [.ptr FieldD, .ptr FieldD] [.bool] rfl _ fun ((w1, h1, o1, v1), (w1q, h1q, o1q, v1q)) r h => (t_l02Alike w1 h1 o1 v1 w1q h1q o1q v1q).trans (p_l02Alike w1 h1 o1 v1 w1q h1q o1q v1q r h)
def eqFG (x : FieldT × FieldT) : Option Bool := if x.1.2.2.2.length < 2 ^ 62 then some (decide (x.1 = x.2)) else none
def eqFS : FSpec := ⟨[FieldD, FieldD], [.bool], eqFG⟩
def eqFPG (x : FieldT × FieldT) : Option Bool := eqFG x
def eqFPS : FSpec := ⟨[.ptr FieldD, .ptr FieldD], [.bool], eqFPG⟩
def loops_l02Same (_ _ _ : Nat) : Option LSpec := none
noncomputable def ss_l02Same : List (Nat × FSpec) := [(155, alikePS), (112, eqLS)]
theorem ssOk_l02Same : FTolds Try.prog ss_l02Same := ⟨s_l02Alike, s_l01SameAll, trivial⟩
noncomputable def Γ_l02Same : Ctx := ctxOf Try.prog tys fs ss_l02Same loops_l02Same
noncomputable def d_l02Same (w1 : Int) (h1 : Int) (o1 : Bool) (v1 : LS) (w1q : Int) (h1q : Int) (o1q : Bool) (v1q : LS) : Option (Bool) := Option.bind (alikePG ((w1, h1, o1, sub v1 0 (List.length v1)), w1q, h1q, o1q, sub v1q 0 (List.length v1q))) fun (r0 : Bool) => (bif r0 then (Option.bind (eqLG (sub v1 0 (List.length v1), sub v1q 0 (List.length v1q))) fun (r1 : Bool) => (some (r1))) else (some (false)))
theorem t_l02Same (w1 : Int) (h1 : Int) (o1 : Bool) (v1 : LS) (w1q : Int) (h1q : Int) (o1q : Bool) (v1q : LS) : (fnT Γ_l02Same 10 109 [.ptr FieldD, .ptr FieldD] [.bool] ((w1, h1, o1, v1), (w1q, h1q, o1q, v1q))).den = d_l02Same w1 h1 o1 v1 w1q h1q o1q v1q := by kernel_rfl
theorem p_l02Same (w1 : Int) (h1 : Int) (o1 : Bool) (v1 : LS) (w1q : Int) (h1q : Int) (o1q : Bool) (v1q : LS) (r : Bool) (h : eqFPG ((w1, h1, o1, v1), (w1q, h1q, o1q, v1q)) = some r) : d_l02Same w1 h1 o1 v1 w1q h1q o1q v1q = some r := by
  obtain ⟨hb, rfl⟩ := if_some (show (if List.length v1 < 2 ^ 62 then some (decide ((w1, h1, o1, v1) = (w1q, h1q, o1q, v1q))) else none) = some r from h)
  have k1 : alikePG ((w1, h1, o1, v1), w1q, h1q, o1q, v1q) = some (decide (w1 = w1q) && decide (h1 = h1q) && decide (o1 = o1q)) := rfl
  have k2 : eqLG (v1, v1q) = some (decide (v1 = v1q)) := if_pos hb
  unfold d_l02Same
  simp only [sub_all, k1, k2, Option.bind_some]
  by_cases e1 : w1 = w1q <;> by_cases e2 : h1 = h1q <;> by_cases e3 : o1 = o1q <;> simp [beqD, beqB, e1, e2, e3]
theorem s_l02Same : FTold Try.prog 109 eqFPS := walkedF (fs := fs) (ss := ss_l02Same) (loop := loops_l02Same) tysOk mixed fnsOk ssOk_l02Same 10 109 [.ptr FieldD, .ptr FieldD] [.bool] rfl _ fun ((w1, h1, o1, v1), (w1q, h1q, o1q, v1q)) r h => (t_l02Same w1 h1 o1 v1 w1q h1q o1q v1q).trans (p_l02Same w1 h1 o1 v1 w1q h1q o1q v1q r h)
def loops_SameField (_ _ _ : Nat) : Option LSpec := none
noncomputable def ss_SameField : List (Nat × FSpec) := [(123, alikeS), (116, eqLS)]
theorem ssOk_SameField : FTolds Try.prog ss_SameField := ⟨s_alike, s_sameNumbers, trivial⟩
noncomputable def Γ_SameField : Ctx := ctxOf Try.prog tys fs ss_SameField loops_SameField
noncomputable def d_SameField (w1 : Int) (h1 : Int) (o1 : Bool) (v1 : LS) (w1q : Int) (h1q : Int) (o1q : Bool) (v1q : LS) : Option (Bool) := Option.bind (alikeG ((w1, h1, o1, sub v1 0 (List.length v1)), w1q, h1q, o1q, sub v1q 0 (List.length v1q))) fun (r0 : Bool) => (bif r0 then (Option.bind (eqLG (sub v1 0 (List.length v1), sub v1q 0 (List.length v1q))) fun (r1 : Bool) => (some (r1))) else (some (false)))
theorem t_SameField (w1 : Int) (h1 : Int) (o1 : Bool) (v1 : LS) (w1q : Int) (h1q : Int) (o1q : Bool) (v1q : LS) : (fnT Γ_SameField 10 115 [FieldD, FieldD] [.bool] ((w1, h1, o1, v1), (w1q, h1q, o1q, v1q))).den = d_SameField w1 h1 o1 v1 w1q h1q o1q v1q := by kernel_rfl
theorem p_SameField (w1 : Int) (h1 : Int) (o1 : Bool) (v1 : LS) (w1q : Int) (h1q : Int) (o1q : Bool) (v1q : LS) (r : Bool) (h : eqFG ((w1, h1, o1, v1), (w1q, h1q, o1q, v1q)) = some r) : d_SameField w1 h1 o1 v1 w1q h1q o1q v1q = some r := by
  obtain ⟨hb, rfl⟩ := if_some (show (if List.length v1 < 2 ^ 62 then some (decide ((w1, h1, o1, v1) = (w1q, h1q, o1q, v1q))) else none) = some r from h)
  have k1 : alikeG ((w1, h1, o1, v1), w1q, h1q, o1q, v1q) = some (decide (w1 = w1q) && decide (h1 = h1q) && decide (o1 = o1q)) := rfl
  have k2 : eqLG (v1, v1q) = some (decide (v1 = v1q)) := if_pos hb
  unfold d_SameField
  simp only [sub_all, k1, k2, Option.bind_some]
  by_cases e1 : w1 = w1q <;> by_cases e2 : h1 = h1q <;> by_cases e3 : o1 = o1q <;> simp [beqD, beqB, e1, e2, e3]
theorem s_SameField : FTold Try.prog 115 eqFS := walkedF (fs := fs) (ss := ss_SameField) (loop := loops_SameField) tysOk mixed fnsOk ssOk_SameField 10 115 [FieldD, FieldD] [.bool] rfl _ fun ((w1, h1, o1, v1), (w1q, h1q, o1q, v1q)) r h => (t_SameField w1 h1 o1 v1 w1q h1q o1q v1q).trans (p_SameField w1 h1 o1 v1 w1q h1q o1q v1q r h)
open Classical in
noncomputable def eqMG (x : MeltT × MeltT) : Option Bool := if x.1.2.2.2.1.length < 2 ^ 62 ∧ x.1.2.2.2.2.2.2.2.1.length < 2 ^ 62 then some (decide (x.1 = x.2)) else none
noncomputable def eqMS : FSpec := ⟨[MeltD, MeltD], [.bool], eqMG⟩
noncomputable def eqMPG (x : MeltT × MeltT) : Option Bool := eqMG x
noncomputable def eqMPS : FSpec := ⟨[.ptr MeltD, .ptr MeltD], [.bool], eqMPG⟩
open Classical in
theorem eqM_some {x y : MeltT} {r : Bool} (h : eqMG (x, y) = some r) : (x.2.2.2.1.length < 2 ^ 62 ∧ x.2.2.2.2.2.2.2.1.length < 2 ^ 62) ∧ (r = true ↔ x = y) := by
  obtain ⟨h1, rfl⟩ := if_some (show (if x.2.2.2.1.length < 2 ^ 62 ∧ x.2.2.2.2.2.2.2.1.length < 2 ^ 62 then some (decide (x = y)) else none) = some r from h)
  exact ⟨h1, decide_eq_true_iff⟩
open Classical in
theorem eqM_ex {x y : MeltT} (h : x.2.2.2.1.length < 2 ^ 62 ∧ x.2.2.2.2.2.2.2.1.length < 2 ^ 62) : ∃ b, eqMG (x, y) = some b ∧ (b = true ↔ x = y) := ⟨_, if_pos h, decide_eq_true_iff⟩
def loops_l03Same (_ _ _ : Nat) : Option LSpec := none
noncomputable def ss_l03Same : List (Nat × FSpec) := [(109, eqFPS), (110, sameS)]
theorem ssOk_l03Same : FTolds Try.prog ss_l03Same := ⟨s_l02Same, s_l01Same, trivial⟩
noncomputable def Γ_l03Same : Ctx := ctxOf Try.prog tys fs ss_l03Same loops_l03Same
noncomputable def d_l03Same (w1 : Int) (h1 : Int) (o1 : Bool) (v1 : LS) (w2 : Int) (h2 : Int) (o2 : Bool) (v2 : LS) (a1 : Fl .f32) (a2 : Fl .f32) (a3 : Fl .f32) (a4 : Fl .f32) (a5 : Fl .f32) (fo : Int) (w1q : Int) (h1q : Int) (o1q : Bool) (v1q : LS) (w2q : Int) (h2q : Int) (o2q : Bool) (v2q : LS) (a1q : Fl .f32) (a2q : Fl .f32) (a3q : Fl .f32) (a4q : Fl .f32) (a5q : Fl .f32) (foq : Int) : Option (Bool) := Option.bind (eqFPG ((w1, h1, o1, sub v1 0 (List.length v1)), w1q, h1q, o1q, sub v1q 0 (List.length v1q))) fun (r0 : Bool) => (bif r0 then (Option.bind (eqFPG ((w2, h2, o2, sub v2 0 (List.length v2)), w2q, h2q, o2q, sub v2q 0 (List.length v2q))) fun (r1 : Bool) => (bif r1 then (Option.bind (sameG (a1, a1q)) fun (r2 : Bool) => (bif r2 then (Option.bind (sameG (a2, a2q)) fun (r3 : Bool) => (bif r3 then (Option.bind (sameG (a3, a3q)) fun (r4 : Bool) => (bif r4 then (Option.bind (sameG (a4, a4q)) fun (r5 : Bool) => (bif r5 then (Option.bind (sameG (a5, a5q)) fun (r6 : Bool) => (bif r6 then (some (fo == foq)) else (some (false)))) else (some (false)))) else (some (false)))) else (some (false)))) else (some (false)))) else (some (false)))) else (some (false)))
theorem t_l03Same (w1 : Int) (h1 : Int) (o1 : Bool) (v1 : LS) (w2 : Int) (h2 : Int) (o2 : Bool) (v2 : LS) (a1 : Fl .f32) (a2 : Fl .f32) (a3 : Fl .f32) (a4 : Fl .f32) (a5 : Fl .f32) (fo : Int) (w1q : Int) (h1q : Int) (o1q : Bool) (v1q : LS) (w2q : Int) (h2q : Int) (o2q : Bool) (v2q : LS) (a1q : Fl .f32) (a2q : Fl .f32) (a3q : Fl .f32) (a4q : Fl .f32) (a5q : Fl .f32) (foq : Int) : (fnT Γ_l03Same 10 45 [.ptr MeltD, .ptr MeltD] [.bool] ((w1, h1, o1, v1, w2, h2, o2, v2, a1, a2, a3, a4, a5, fo), (w1q, h1q, o1q, v1q, w2q, h2q, o2q, v2q, a1q, a2q, a3q, a4q, a5q, foq))).den = d_l03Same w1 h1 o1 v1 w2 h2 o2 v2 a1 a2 a3 a4 a5 fo w1q h1q o1q v1q w2q h2q o2q v2q a1q a2q a3q a4q a5q foq := by kernel_rfl
theorem p_l03Same (w1 : Int) (h1 : Int) (o1 : Bool) (v1 : LS) (w2 : Int) (h2 : Int) (o2 : Bool) (v2 : LS) (a1 : Fl .f32) (a2 : Fl .f32) (a3 : Fl .f32) (a4 : Fl .f32) (a5 : Fl .f32) (fo : Int) (w1q : Int) (h1q : Int) (o1q : Bool) (v1q : LS) (w2q : Int) (h2q : Int) (o2q : Bool) (v2q : LS) (a1q : Fl .f32) (a2q : Fl .f32) (a3q : Fl .f32) (a4q : Fl .f32) (a5q : Fl .f32) (foq : Int) (r : Bool) (h : eqMPG ((w1, h1, o1, v1, w2, h2, o2, v2, a1, a2, a3, a4, a5, fo), (w1q, h1q, o1q, v1q, w2q, h2q, o2q, v2q, a1q, a2q, a3q, a4q, a5q, foq)) = some r) : d_l03Same w1 h1 o1 v1 w2 h2 o2 v2 a1 a2 a3 a4 a5 fo w1q h1q o1q v1q w2q h2q o2q v2q a1q a2q a3q a4q a5q foq = some r := by
  obtain ⟨⟨hb1, hb2⟩, hr⟩ := eqM_some (x := (w1, h1, o1, v1, w2, h2, o2, v2, a1, a2, a3, a4, a5, fo)) (y := (w1q, h1q, o1q, v1q, w2q, h2q, o2q, v2q, a1q, a2q, a3q, a4q, a5q, foq)) h
  have k1 : eqFPG ((w1, h1, o1, v1), (w1q, h1q, o1q, v1q)) = some (decide ((w1, h1, o1, v1) = (w1q, h1q, o1q, v1q))) := if_pos hb1
  have k2 : eqFPG ((w2, h2, o2, v2), (w2q, h2q, o2q, v2q)) = some (decide ((w2, h2, o2, v2) = (w2q, h2q, o2q, v2q))) := if_pos hb2
  have k3 : ∀ x y, sameG (x, y) = some (decide (x = y)) := fun _ _ => rfl
  unfold d_l03Same
  simp only [sub_all, k1, k2, k3, Option.bind_some]
  refine tree_iff (bif_iff decide_eq_true_iff (bif_iff decide_eq_true_iff (bif_iff decide_eq_true_iff (bif_iff decide_eq_true_iff (bif_iff decide_eq_true_iff (bif_iff decide_eq_true_iff (bif_iff decide_eq_true_iff (end_iff (beq_iff _ _))))))))) hr ?_
  simp only [Prod.mk.injEq, and_assoc]
theorem s_l03Same : FTold Try.prog 45 eqMPS := walkedF (fs := fs) (ss := ss_l03Same) (loop := loops_l03Same) tysOk mixed fnsOk ssOk_l03Same 10 45 [.ptr MeltD, .ptr MeltD] [.bool] rfl _ fun ((w1, h1, o1, v1, w2, h2, o2, v2, a1, a2, a3, a4, a5, fo), (w1q, h1q, o1q, v1q, w2q, h2q, o2q, v2q, a1q, a2q, a3q, a4q, a5q, foq)) r h => (t_l03Same w1 h1 o1 v1 w2 h2 o2 v2 a1 a2 a3 a4 a5 fo w1q h1q o1q v1q w2q h2q o2q v2q a1q a2q a3q a4q a5q foq).trans (p_l03Same w1 h1 o1 v1 w2 h2 o2 v2 a1 a2 a3 a4 a5 fo w1q h1q o1q v1q w2q h2q o2q v2q a1q a2q a3q a4q a5q foq r h)
def loops_SameMelt (_ _ _ : Nat) : Option LSpec := none
noncomputable def ss_SameMelt : List (Nat × FSpec) := [(115, eqFS), (116, eqLS)]
theorem ssOk_SameMelt : FTolds Try.prog ss_SameMelt := ⟨s_SameField, s_sameNumbers, trivial⟩
noncomputable def Γ_SameMelt : Ctx := ctxOf Try.prog tys fs ss_SameMelt loops_SameMelt
noncomputable def d_SameMelt (w1 : Int) (h1 : Int) (o1 : Bool) (v1 : LS) (w2 : Int) (h2 : Int) (o2 : Bool) (v2 : LS) (a1 : Fl .f32) (a2 : Fl .f32) (a3 : Fl .f32) (a4 : Fl .f32) (a5 : Fl .f32) (fo : Int) (w1q : Int) (h1q : Int) (o1q : Bool) (v1q : LS) (w2q : Int) (h2q : Int) (o2q : Bool) (v2q : LS) (a1q : Fl .f32) (a2q : Fl .f32) (a3q : Fl .f32) (a4q : Fl .f32) (a5q : Fl .f32) (foq : Int) : Option (Bool) := Option.bind (eqFG ((w1, h1, o1, sub v1 0 (List.length v1)), w1q, h1q, o1q, sub v1q 0 (List.length v1q))) fun (r0 : Bool) => (bif r0 then (Option.bind (eqFG ((w2, h2, o2, sub v2 0 (List.length v2)), w2q, h2q, o2q, sub v2q 0 (List.length v2q))) fun (r1 : Bool) => (bif r1 then (Option.bind (eqLG (sub [a1, a2, a3, a4, a5] 0 5, sub [a1q, a2q, a3q, a4q, a5q] 0 5)) fun (r2 : Bool) => (bif r2 then (some (fo == foq)) else (some (false)))) else (some (false)))) else (some (false)))
theorem t_SameMelt (w1 : Int) (h1 : Int) (o1 : Bool) (v1 : LS) (w2 : Int) (h2 : Int) (o2 : Bool) (v2 : LS) (a1 : Fl .f32) (a2 : Fl .f32) (a3 : Fl .f32) (a4 : Fl .f32) (a5 : Fl .f32) (fo : Int) (w1q : Int) (h1q : Int) (o1q : Bool) (v1q : LS) (w2q : Int) (h2q : Int) (o2q : Bool) (v2q : LS) (a1q : Fl .f32) (a2q : Fl .f32) (a3q : Fl .f32) (a4q : Fl .f32) (a5q : Fl .f32) (foq : Int) : (fnT Γ_SameMelt 10 50 [MeltD, MeltD] [.bool] ((w1, h1, o1, v1, w2, h2, o2, v2, a1, a2, a3, a4, a5, fo), (w1q, h1q, o1q, v1q, w2q, h2q, o2q, v2q, a1q, a2q, a3q, a4q, a5q, foq))).den = d_SameMelt w1 h1 o1 v1 w2 h2 o2 v2 a1 a2 a3 a4 a5 fo w1q h1q o1q v1q w2q h2q o2q v2q a1q a2q a3q a4q a5q foq := by kernel_rfl
theorem p_SameMelt (w1 : Int) (h1 : Int) (o1 : Bool) (v1 : LS) (w2 : Int) (h2 : Int) (o2 : Bool) (v2 : LS) (a1 : Fl .f32) (a2 : Fl .f32) (a3 : Fl .f32) (a4 : Fl .f32) (a5 : Fl .f32) (fo : Int) (w1q : Int) (h1q : Int) (o1q : Bool) (v1q : LS) (w2q : Int) (h2q : Int) (o2q : Bool) (v2q : LS) (a1q : Fl .f32) (a2q : Fl .f32) (a3q : Fl .f32) (a4q : Fl .f32) (a5q : Fl .f32) (foq : Int) (r : Bool) (h : eqMG ((w1, h1, o1, v1, w2, h2, o2, v2, a1, a2, a3, a4, a5, fo), (w1q, h1q, o1q, v1q, w2q, h2q, o2q, v2q, a1q, a2q, a3q, a4q, a5q, foq)) = some r) : d_SameMelt w1 h1 o1 v1 w2 h2 o2 v2 a1 a2 a3 a4 a5 fo w1q h1q o1q v1q w2q h2q o2q v2q a1q a2q a3q a4q a5q foq = some r := by
  obtain ⟨⟨hb1, hb2⟩, hr⟩ := eqM_some (x := (w1, h1, o1, v1, w2, h2, o2, v2, a1, a2, a3, a4, a5, fo)) (y := (w1q, h1q, o1q, v1q, w2q, h2q, o2q, v2q, a1q, a2q, a3q, a4q, a5q, foq)) h
  have k1 : eqFG ((w1, h1, o1, v1), (w1q, h1q, o1q, v1q)) = some (decide ((w1, h1, o1, v1) = (w1q, h1q, o1q, v1q))) := if_pos hb1
  have k2 : eqFG ((w2, h2, o2, v2), (w2q, h2q, o2q, v2q)) = some (decide ((w2, h2, o2, v2) = (w2q, h2q, o2q, v2q))) := if_pos hb2
  have k3 : eqLG (sub [a1, a2, a3, a4, a5] 0 5, sub [a1q, a2q, a3q, a4q, a5q] 0 5) = some (decide ([a1, a2, a3, a4, a5] = [a1q, a2q, a3q, a4q, a5q])) := (if_pos (show [a1, a2, a3, a4, a5].length < 2 ^ 62 by simp)).trans rfl
  unfold d_SameMelt
  simp only [sub_all, k1, k2, k3, Option.bind_some]
  refine tree_iff (bif_iff decide_eq_true_iff (bif_iff decide_eq_true_iff (bif_iff decide_eq_true_iff (end_iff (beq_iff _ _))))) hr ?_
  simp only [Prod.mk.injEq, List.cons.injEq, and_assoc, true_and]
theorem s_SameMelt : FTold Try.prog 50 eqMS := walkedF (fs := fs) (ss := ss_SameMelt) (loop := loops_SameMelt) tysOk mixed fnsOk ssOk_SameMelt 10 50 [MeltD, MeltD] [.bool] rfl _ fun ((w1, h1, o1, v1, w2, h2, o2, v2, a1, a2, a3, a4, a5, fo), (w1q, h1q, o1q, v1q, w2q, h2q, o2q, v2q, a1q, a2q, a3q, a4q, a5q, foq)) r h => (t_SameMelt w1 h1 o1 v1 w2 h2 o2 v2 a1 a2 a3 a4 a5 fo w1q h1q o1q v1q w2q h2q o2q v2q a1q a2q a3q a4q a5q foq).trans (p_SameMelt w1 h1 o1 v1 w2 h2 o2 v2 a1 a2 a3 a4 a5 fo w1q h1q o1q v1q w2q h2q o2q v2q a1q a2q a3q a4q a5q foq r h)
def eqGG (x : GrT × GrT) : Option Bool := if x.1.2.2.length < 2 ^ 62 then some (decide (x.1 = x.2)) else none
def eqGS : FSpec := ⟨[GrD, GrD], [.bool], eqGG⟩
def loops_GrS (_ _ _ : Nat) : Option LSpec := none
noncomputable def ss_GrS : List (Nat × FSpec) := [(111, eqIS)]
theorem ssOk_GrS : FTolds Try.prog ss_GrS := ⟨s_l00Same, trivial⟩
noncomputable def Γ_GrS : Ctx := ctxOf Try.prog tys fs ss_GrS loops_GrS
noncomputable def d_GrS (gw : Int) (gh : Int) (gl : LI) (gwq : Int) (ghq : Int) (glq : LI) : Option (Bool) := bif gw == gwq then (bif gh == ghq then (Option.bind (eqIG (sub gl 0 (List.length gl), sub glq 0 (List.length glq))) fun (r0 : Bool) => (some (r0))) else (some (false))) else (some (false))
theorem t_GrS (gw : Int) (gh : Int) (gl : LI) (gwq : Int) (ghq : Int) (glq : LI) : (fnT Γ_GrS 10 46 [GrD, GrD] [.bool] ((gw, gh, gl), (gwq, ghq, glq))).den = d_GrS gw gh gl gwq ghq glq := by kernel_rfl
theorem p_GrS (gw : Int) (gh : Int) (gl : LI) (gwq : Int) (ghq : Int) (glq : LI) (r : Bool) (h : eqGG ((gw, gh, gl), (gwq, ghq, glq)) = some r) : d_GrS gw gh gl gwq ghq glq = some r := by
  obtain ⟨hb, rfl⟩ := if_some (show (if List.length gl < 2 ^ 62 then some (decide ((gw, gh, gl) = (gwq, ghq, glq))) else none) = some r from h)
  have k2 : eqIG (gl, glq) = some (decide (gl = glq)) := if_pos hb
  unfold d_GrS
  simp only [sub_all, k2, Option.bind_some]
  by_cases e1 : gw = gwq <;> by_cases e2 : gh = ghq <;> simp [beqD, e1, e2]
theorem s_GrS : FTold Try.prog 46 eqGS := walkedF (fs := fs) (ss := ss_GrS) (loop := loops_GrS) tysOk mixed fnsOk ssOk_GrS 10 46 [GrD, GrD] [.bool] rfl _ fun ((gw, gh, gl), (gwq, ghq, glq)) r h => (t_GrS gw gh gl gwq ghq glq).trans (p_GrS gw gh gl gwq ghq glq r h)
def loops_GrI (_ _ _ : Nat) : Option LSpec := none
noncomputable def ss_GrI : List (Nat × FSpec) := [(106, eqIS)]
theorem ssOk_GrI : FTolds Try.prog ss_GrI := ⟨s_Equal, trivial⟩
noncomputable def Γ_GrI : Ctx := ctxOf Try.prog tys fs ss_GrI loops_GrI
noncomputable def d_GrI (gw : Int) (gh : Int) (gl : LI) (gwq : Int) (ghq : Int) (glq : LI) : Option (Bool) := bif gw == gwq then (bif gh == ghq then (Option.bind (eqIG (sub gl 0 (List.length gl), sub glq 0 (List.length glq))) fun (r0 : Bool) => (some (r0))) else (some (false))) else (some (false))
theorem t_GrI (gw : Int) (gh : Int) (gl : LI) (gwq : Int) (ghq : Int) (glq : LI) : (fnT Γ_GrI 10 51 [GrD, GrD] [.bool] ((gw, gh, gl), (gwq, ghq, glq))).den = d_GrI gw gh gl gwq ghq glq := by kernel_rfl
theorem p_GrI (gw : Int) (gh : Int) (gl : LI) (gwq : Int) (ghq : Int) (glq : LI) (r : Bool) (h : eqGG ((gw, gh, gl), (gwq, ghq, glq)) = some r) : d_GrI gw gh gl gwq ghq glq = some r := by
  obtain ⟨hb, rfl⟩ := if_some (show (if List.length gl < 2 ^ 62 then some (decide ((gw, gh, gl) = (gwq, ghq, glq))) else none) = some r from h)
  have k2 : eqIG (gl, glq) = some (decide (gl = glq)) := if_pos hb
  unfold d_GrI
  simp only [sub_all, k2, Option.bind_some]
  by_cases e1 : gw = gwq <;> by_cases e2 : gh = ghq <;> simp [beqD, e1, e2]
theorem s_GrI : FTold Try.prog 51 eqGS := walkedF (fs := fs) (ss := ss_GrI) (loop := loops_GrI) tysOk mixed fnsOk ssOk_GrI 10 51 [GrD, GrD] [.bool] rfl _ fun ((gw, gh, gl), (gwq, ghq, glq)) r h => (t_GrI gw gh gl gwq ghq glq).trans (p_GrI gw gh gl gwq ghq glq r h)
def eqKG (x : FlT × FlT) : Option Bool := if x.1.2.length < 2 ^ 62 then some (decide (x.1 = x.2)) else none
def eqKS : FSpec := ⟨[FlD, FlD], [.bool], eqKG⟩
def loops_FlS (_ _ _ : Nat) : Option LSpec := none
noncomputable def ss_FlS : List (Nat × FSpec) := [(112, eqLS)]
theorem ssOk_FlS : FTolds Try.prog ss_FlS := ⟨s_l01SameAll, trivial⟩
noncomputable def Γ_FlS : Ctx := ctxOf Try.prog tys fs ss_FlS loops_FlS
noncomputable def d_FlS (sd : Int) (sv : LS) (sdq : Int) (svq : LS) : Option (Bool) := bif sd == sdq then (Option.bind (eqLG (sub sv 0 (List.length sv), sub svq 0 (List.length svq))) fun (r0 : Bool) => (some (r0))) else (some (false))
theorem t_FlS (sd : Int) (sv : LS) (sdq : Int) (svq : LS) : (fnT Γ_FlS 10 47 [FlD, FlD] [.bool] ((sd, sv), (sdq, svq))).den = d_FlS sd sv sdq svq := by kernel_rfl
theorem p_FlS (sd : Int) (sv : LS) (sdq : Int) (svq : LS) (r : Bool) (h : eqKG ((sd, sv), (sdq, svq)) = some r) : d_FlS sd sv sdq svq = some r := by
  obtain ⟨hb, rfl⟩ := if_some (show (if List.length sv < 2 ^ 62 then some (decide ((sd, sv) = (sdq, svq))) else none) = some r from h)
  have k2 : eqLG (sv, svq) = some (decide (sv = svq)) := if_pos hb
  unfold d_FlS
  simp only [sub_all, k2, Option.bind_some]
  by_cases e1 : sd = sdq <;> simp [beqD, e1]
theorem s_FlS : FTold Try.prog 47 eqKS := walkedF (fs := fs) (ss := ss_FlS) (loop := loops_FlS) tysOk mixed fnsOk ssOk_FlS 10 47 [FlD, FlD] [.bool] rfl _ fun ((sd, sv), (sdq, svq)) r h => (t_FlS sd sv sdq svq).trans (p_FlS sd sv sdq svq r h)
def loops_FlI (_ _ _ : Nat) : Option LSpec := none
noncomputable def ss_FlI : List (Nat × FSpec) := [(116, eqLS)]
theorem ssOk_FlI : FTolds Try.prog ss_FlI := ⟨s_sameNumbers, trivial⟩
noncomputable def Γ_FlI : Ctx := ctxOf Try.prog tys fs ss_FlI loops_FlI
noncomputable def d_FlI (sd : Int) (sv : LS) (sdq : Int) (svq : LS) : Option (Bool) := bif sd == sdq then (Option.bind (eqLG (sub sv 0 (List.length sv), sub svq 0 (List.length svq))) fun (r0 : Bool) => (some (r0))) else (some (false))
theorem t_FlI (sd : Int) (sv : LS) (sdq : Int) (svq : LS) : (fnT Γ_FlI 10 52 [FlD, FlD] [.bool] ((sd, sv), (sdq, svq))).den = d_FlI sd sv sdq svq := by kernel_rfl
theorem p_FlI (sd : Int) (sv : LS) (sdq : Int) (svq : LS) (r : Bool) (h : eqKG ((sd, sv), (sdq, svq)) = some r) : d_FlI sd sv sdq svq = some r := by
  obtain ⟨hb, rfl⟩ := if_some (show (if List.length sv < 2 ^ 62 then some (decide ((sd, sv) = (sdq, svq))) else none) = some r from h)
  have k2 : eqLG (sv, svq) = some (decide (sv = svq)) := if_pos hb
  unfold d_FlI
  simp only [sub_all, k2, Option.bind_some]
  by_cases e1 : sd = sdq <;> simp [beqD, e1]
theorem s_FlI : FTold Try.prog 52 eqKS := walkedF (fs := fs) (ss := ss_FlI) (loop := loops_FlI) tysOk mixed fnsOk ssOk_FlI 10 52 [FlD, FlD] [.bool] rfl _ fun ((sd, sv), (sdq, svq)) r h => (t_FlI sd sv sdq svq).trans (p_FlI sd sv sdq svq r h)
open Classical in
noncomputable def eqDG (x : DeskT × DeskT) : Option Bool := if x.1.2.2.2.1.length < 2 ^ 62 ∧ x.1.2.2.2.2.2.2.2.1.length < 2 ^ 62 ∧ x.1.2.2.2.2.2.2.2.2.2.2.2.2.2.2.2.2.1.length < 2 ^ 62 ∧ x.1.2.2.2.2.2.2.2.2.2.2.2.2.2.2.2.2.2.2.1.length < 2 ^ 62 then some (decide (x.1 = x.2)) else none
noncomputable def eqDS : FSpec := ⟨[DeskD, DeskD], [.bool], eqDG⟩
open Classical in
theorem eqD_some {x y : DeskT} {r : Bool} (h : eqDG (x, y) = some r) : (x.2.2.2.1.length < 2 ^ 62 ∧ x.2.2.2.2.2.2.2.1.length < 2 ^ 62 ∧ x.2.2.2.2.2.2.2.2.2.2.2.2.2.2.2.2.1.length < 2 ^ 62 ∧ x.2.2.2.2.2.2.2.2.2.2.2.2.2.2.2.2.2.2.1.length < 2 ^ 62) ∧ (r = true ↔ x = y) := by
  obtain ⟨h1, rfl⟩ := if_some (show (if x.2.2.2.1.length < 2 ^ 62 ∧ x.2.2.2.2.2.2.2.1.length < 2 ^ 62 ∧ x.2.2.2.2.2.2.2.2.2.2.2.2.2.2.2.2.1.length < 2 ^ 62 ∧ x.2.2.2.2.2.2.2.2.2.2.2.2.2.2.2.2.2.2.1.length < 2 ^ 62 then some (decide (x = y)) else none) = some r from h)
  exact ⟨h1, decide_eq_true_iff⟩
def loops_DeS (_ _ _ : Nat) : Option LSpec := none
noncomputable def ss_DeS : List (Nat × FSpec) := [(45, eqMPS), (46, eqGS), (47, eqKS)]
theorem ssOk_DeS : FTolds Try.prog ss_DeS := ⟨s_l03Same, s_GrS, s_FlS, trivial⟩
noncomputable def Γ_DeS : Ctx := ctxOf Try.prog tys fs ss_DeS loops_DeS
noncomputable def d_DeS (w1 : Int) (h1 : Int) (o1 : Bool) (v1 : LS) (w2 : Int) (h2 : Int) (o2 : Bool) (v2 : LS) (a1 : Fl .f32) (a2 : Fl .f32) (a3 : Fl .f32) (a4 : Fl .f32) (a5 : Fl .f32) (fo : Int) (gw : Int) (gh : Int) (gl : LI) (sd : Int) (sv : LS) (se : Int) (w1q : Int) (h1q : Int) (o1q : Bool) (v1q : LS) (w2q : Int) (h2q : Int) (o2q : Bool) (v2q : LS) (a1q : Fl .f32) (a2q : Fl .f32) (a3q : Fl .f32) (a4q : Fl .f32) (a5q : Fl .f32) (foq : Int) (gwq : Int) (ghq : Int) (glq : LI) (sdq : Int) (svq : LS) (seq : Int) : Option (Bool) := Option.bind (eqMPG ((w1, h1, o1, sub v1 0 (List.length v1), w2, h2, o2, sub v2 0 (List.length v2), a1, a2, a3, a4, a5, fo), w1q, h1q, o1q, sub v1q 0 (List.length v1q), w2q, h2q, o2q, sub v2q 0 (List.length v2q), a1q, a2q, a3q, a4q, a5q, foq)) fun (r0 : Bool) => (bif r0 then (Option.bind (eqGG ((gw, gh, sub gl 0 (List.length gl)), gwq, ghq, sub glq 0 (List.length glq))) fun (r1 : Bool) => (bif r1 then (Option.bind (eqKG ((sd, sub sv 0 (List.length sv)), sdq, sub svq 0 (List.length svq))) fun (r2 : Bool) => (bif r2 then (some (se == seq)) else (some (false)))) else (some (false)))) else (some (false)))
theorem t_DeS (w1 : Int) (h1 : Int) (o1 : Bool) (v1 : LS) (w2 : Int) (h2 : Int) (o2 : Bool) (v2 : LS) (a1 : Fl .f32) (a2 : Fl .f32) (a3 : Fl .f32) (a4 : Fl .f32) (a5 : Fl .f32) (fo : Int) (gw : Int) (gh : Int) (gl : LI) (sd : Int) (sv : LS) (se : Int) (w1q : Int) (h1q : Int) (o1q : Bool) (v1q : LS) (w2q : Int) (h2q : Int) (o2q : Bool) (v2q : LS) (a1q : Fl .f32) (a2q : Fl .f32) (a3q : Fl .f32) (a4q : Fl .f32) (a5q : Fl .f32) (foq : Int) (gwq : Int) (ghq : Int) (glq : LI) (sdq : Int) (svq : LS) (seq : Int) : (fnT Γ_DeS 10 10 [DeskD, DeskD] [.bool] ((w1, h1, o1, v1, w2, h2, o2, v2, a1, a2, a3, a4, a5, fo, gw, gh, gl, sd, sv, se), (w1q, h1q, o1q, v1q, w2q, h2q, o2q, v2q, a1q, a2q, a3q, a4q, a5q, foq, gwq, ghq, glq, sdq, svq, seq))).den = d_DeS w1 h1 o1 v1 w2 h2 o2 v2 a1 a2 a3 a4 a5 fo gw gh gl sd sv se w1q h1q o1q v1q w2q h2q o2q v2q a1q a2q a3q a4q a5q foq gwq ghq glq sdq svq seq := by kernel_rfl
theorem p_DeS (w1 : Int) (h1 : Int) (o1 : Bool) (v1 : LS) (w2 : Int) (h2 : Int) (o2 : Bool) (v2 : LS) (a1 : Fl .f32) (a2 : Fl .f32) (a3 : Fl .f32) (a4 : Fl .f32) (a5 : Fl .f32) (fo : Int) (gw : Int) (gh : Int) (gl : LI) (sd : Int) (sv : LS) (se : Int) (w1q : Int) (h1q : Int) (o1q : Bool) (v1q : LS) (w2q : Int) (h2q : Int) (o2q : Bool) (v2q : LS) (a1q : Fl .f32) (a2q : Fl .f32) (a3q : Fl .f32) (a4q : Fl .f32) (a5q : Fl .f32) (foq : Int) (gwq : Int) (ghq : Int) (glq : LI) (sdq : Int) (svq : LS) (seq : Int) (r : Bool) (h : eqDG ((w1, h1, o1, v1, w2, h2, o2, v2, a1, a2, a3, a4, a5, fo, gw, gh, gl, sd, sv, se), (w1q, h1q, o1q, v1q, w2q, h2q, o2q, v2q, a1q, a2q, a3q, a4q, a5q, foq, gwq, ghq, glq, sdq, svq, seq)) = some r) : d_DeS w1 h1 o1 v1 w2 h2 o2 v2 a1 a2 a3 a4 a5 fo gw gh gl sd sv se w1q h1q o1q v1q w2q h2q o2q v2q a1q a2q a3q a4q a5q foq gwq ghq glq sdq svq seq = some r := by
  obtain ⟨⟨hb1, hb2, hb3, hb4⟩, hr⟩ := eqD_some (x := (w1, h1, o1, v1, w2, h2, o2, v2, a1, a2, a3, a4, a5, fo, gw, gh, gl, sd, sv, se)) (y := (w1q, h1q, o1q, v1q, w2q, h2q, o2q, v2q, a1q, a2q, a3q, a4q, a5q, foq, gwq, ghq, glq, sdq, svq, seq)) h
  obtain ⟨b1, k1, i1⟩ := eqM_ex (x := (w1, h1, o1, v1, w2, h2, o2, v2, a1, a2, a3, a4, a5, fo)) (y := (w1q, h1q, o1q, v1q, w2q, h2q, o2q, v2q, a1q, a2q, a3q, a4q, a5q, foq)) ⟨hb1, hb2⟩
  have k1' : eqMPG ((w1, h1, o1, v1, w2, h2, o2, v2, a1, a2, a3, a4, a5, fo), (w1q, h1q, o1q, v1q, w2q, h2q, o2q, v2q, a1q, a2q, a3q, a4q, a5q, foq)) = some b1 := k1
  have k2 : eqGG ((gw, gh, gl), (gwq, ghq, glq)) = some (decide ((gw, gh, gl) = (gwq, ghq, glq))) := if_pos hb3
  have k3 : eqKG ((sd, sv), (sdq, svq)) = some (decide ((sd, sv) = (sdq, svq))) := if_pos hb4
  unfold d_DeS
  simp only [sub_all, k1', k2, k3, Option.bind_some]
  refine tree_iff (bif_iff i1 (bif_iff decide_eq_true_iff (bif_iff decide_eq_true_iff (end_iff (beq_iff _ _))))) hr ?_
  simp only [Prod.mk.injEq, and_assoc]
theorem s_DeS : FTold Try.prog 10 eqDS := walkedF (fs := fs) (ss := ss_DeS) (loop := loops_DeS) tysOk mixed fnsOk ssOk_DeS 10 10 [DeskD, DeskD] [.bool] rfl _ fun ((w1, h1, o1, v1, w2, h2, o2, v2, a1, a2, a3, a4, a5, fo, gw, gh, gl, sd, sv, se), (w1q, h1q, o1q, v1q, w2q, h2q, o2q, v2q, a1q, a2q, a3q, a4q, a5q, foq, gwq, ghq, glq, sdq, svq, seq)) r h => (t_DeS w1 h1 o1 v1 w2 h2 o2 v2 a1 a2 a3 a4 a5 fo gw gh gl sd sv se w1q h1q o1q v1q w2q h2q o2q v2q a1q a2q a3q a4q a5q foq gwq ghq glq sdq svq seq).trans (p_DeS w1 h1 o1 v1 w2 h2 o2 v2 a1 a2 a3 a4 a5 fo gw gh gl sd sv se w1q h1q o1q v1q w2q h2q o2q v2q a1q a2q a3q a4q a5q foq gwq ghq glq sdq svq seq r h)
def loops_DeI (_ _ _ : Nat) : Option LSpec := none
noncomputable def ss_DeI : List (Nat × FSpec) := [(50, eqMS), (51, eqGS), (52, eqKS)]
theorem ssOk_DeI : FTolds Try.prog ss_DeI := ⟨s_SameMelt, s_GrI, s_FlI, trivial⟩
noncomputable def Γ_DeI : Ctx := ctxOf Try.prog tys fs ss_DeI loops_DeI
noncomputable def d_DeI (w1 : Int) (h1 : Int) (o1 : Bool) (v1 : LS) (w2 : Int) (h2 : Int) (o2 : Bool) (v2 : LS) (a1 : Fl .f32) (a2 : Fl .f32) (a3 : Fl .f32) (a4 : Fl .f32) (a5 : Fl .f32) (fo : Int) (gw : Int) (gh : Int) (gl : LI) (sd : Int) (sv : LS) (se : Int) (w1q : Int) (h1q : Int) (o1q : Bool) (v1q : LS) (w2q : Int) (h2q : Int) (o2q : Bool) (v2q : LS) (a1q : Fl .f32) (a2q : Fl .f32) (a3q : Fl .f32) (a4q : Fl .f32) (a5q : Fl .f32) (foq : Int) (gwq : Int) (ghq : Int) (glq : LI) (sdq : Int) (svq : LS) (seq : Int) : Option (Bool) := Option.bind (eqMG ((w1, h1, o1, sub v1 0 (List.length v1), w2, h2, o2, sub v2 0 (List.length v2), a1, a2, a3, a4, a5, fo), w1q, h1q, o1q, sub v1q 0 (List.length v1q), w2q, h2q, o2q, sub v2q 0 (List.length v2q), a1q, a2q, a3q, a4q, a5q, foq)) fun (r0 : Bool) => (bif r0 then (Option.bind (eqGG ((gw, gh, sub gl 0 (List.length gl)), gwq, ghq, sub glq 0 (List.length glq))) fun (r1 : Bool) => (bif r1 then (Option.bind (eqKG ((sd, sub sv 0 (List.length sv)), sdq, sub svq 0 (List.length svq))) fun (r2 : Bool) => (bif r2 then (some (se == seq)) else (some (false)))) else (some (false)))) else (some (false)))
theorem t_DeI (w1 : Int) (h1 : Int) (o1 : Bool) (v1 : LS) (w2 : Int) (h2 : Int) (o2 : Bool) (v2 : LS) (a1 : Fl .f32) (a2 : Fl .f32) (a3 : Fl .f32) (a4 : Fl .f32) (a5 : Fl .f32) (fo : Int) (gw : Int) (gh : Int) (gl : LI) (sd : Int) (sv : LS) (se : Int) (w1q : Int) (h1q : Int) (o1q : Bool) (v1q : LS) (w2q : Int) (h2q : Int) (o2q : Bool) (v2q : LS) (a1q : Fl .f32) (a2q : Fl .f32) (a3q : Fl .f32) (a4q : Fl .f32) (a5q : Fl .f32) (foq : Int) (gwq : Int) (ghq : Int) (glq : LI) (sdq : Int) (svq : LS) (seq : Int) : (fnT Γ_DeI 10 12 [DeskD, DeskD] [.bool] ((w1, h1, o1, v1, w2, h2, o2, v2, a1, a2, a3, a4, a5, fo, gw, gh, gl, sd, sv, se), (w1q, h1q, o1q, v1q, w2q, h2q, o2q, v2q, a1q, a2q, a3q, a4q, a5q, foq, gwq, ghq, glq, sdq, svq, seq))).den = d_DeI w1 h1 o1 v1 w2 h2 o2 v2 a1 a2 a3 a4 a5 fo gw gh gl sd sv se w1q h1q o1q v1q w2q h2q o2q v2q a1q a2q a3q a4q a5q foq gwq ghq glq sdq svq seq := by kernel_rfl
theorem p_DeI (w1 : Int) (h1 : Int) (o1 : Bool) (v1 : LS) (w2 : Int) (h2 : Int) (o2 : Bool) (v2 : LS) (a1 : Fl .f32) (a2 : Fl .f32) (a3 : Fl .f32) (a4 : Fl .f32) (a5 : Fl .f32) (fo : Int) (gw : Int) (gh : Int) (gl : LI) (sd : Int) (sv : LS) (se : Int) (w1q : Int) (h1q : Int) (o1q : Bool) (v1q : LS) (w2q : Int) (h2q : Int) (o2q : Bool) (v2q : LS) (a1q : Fl .f32) (a2q : Fl .f32) (a3q : Fl .f32) (a4q : Fl .f32) (a5q : Fl .f32) (foq : Int) (gwq : Int) (ghq : Int) (glq : LI) (sdq : Int) (svq : LS) (seq : Int) (r : Bool) (h : eqDG ((w1, h1, o1, v1, w2, h2, o2, v2, a1, a2, a3, a4, a5, fo, gw, gh, gl, sd, sv, se), (w1q, h1q, o1q, v1q, w2q, h2q, o2q, v2q, a1q, a2q, a3q, a4q, a5q, foq, gwq, ghq, glq, sdq, svq, seq)) = some r) : d_DeI w1 h1 o1 v1 w2 h2 o2 v2 a1 a2 a3 a4 a5 fo gw gh gl sd sv se w1q h1q o1q v1q w2q h2q o2q v2q a1q a2q a3q a4q a5q foq gwq ghq glq sdq svq seq = some r := by
  obtain ⟨⟨hb1, hb2, hb3, hb4⟩, hr⟩ := eqD_some (x := (w1, h1, o1, v1, w2, h2, o2, v2, a1, a2, a3, a4, a5, fo, gw, gh, gl, sd, sv, se)) (y := (w1q, h1q, o1q, v1q, w2q, h2q, o2q, v2q, a1q, a2q, a3q, a4q, a5q, foq, gwq, ghq, glq, sdq, svq, seq)) h
  obtain ⟨b1, k1, i1⟩ := eqM_ex (x := (w1, h1, o1, v1, w2, h2, o2, v2, a1, a2, a3, a4, a5, fo)) (y := (w1q, h1q, o1q, v1q, w2q, h2q, o2q, v2q, a1q, a2q, a3q, a4q, a5q, foq)) ⟨hb1, hb2⟩
  have k1' : eqMG ((w1, h1, o1, v1, w2, h2, o2, v2, a1, a2, a3, a4, a5, fo), (w1q, h1q, o1q, v1q, w2q, h2q, o2q, v2q, a1q, a2q, a3q, a4q, a5q, foq)) = some b1 := k1
  have k2 : eqGG ((gw, gh, gl), (gwq, ghq, glq)) = some (decide ((gw, gh, gl) = (gwq, ghq, glq))) := if_pos hb3
  have k3 : eqKG ((sd, sv), (sdq, svq)) = some (decide ((sd, sv) = (sdq, svq))) := if_pos hb4
  unfold d_DeI
  simp only [sub_all, k1', k2, k3, Option.bind_some]
  refine tree_iff (bif_iff i1 (bif_iff decide_eq_true_iff (bif_iff decide_eq_true_iff (end_iff (beq_iff _ _))))) hr ?_
  simp only [Prod.mk.injEq, and_assoc]
theorem s_DeI : FTold Try.prog 12 eqDS := walkedF (fs := fs) (ss := ss_DeI) (loop := loops_DeI) tysOk mixed fnsOk ssOk_DeI 10 12 [DeskD, DeskD] [.bool] rfl _ fun ((w1, h1, o1, v1, w2, h2, o2, v2, a1, a2, a3, a4, a5, fo, gw, gh, gl, sd, sv, se), (w1q, h1q, o1q, v1q, w2q, h2q, o2q, v2q, a1q, a2q, a3q, a4q, a5q, foq, gwq, ghq, glq, sdq, svq, seq)) r h => (t_DeI w1 h1 o1 v1 w2 h2 o2 v2 a1 a2 a3 a4 a5 fo gw gh gl sd sv se w1q h1q o1q v1q w2q h2q o2q v2q a1q a2q a3q a4q a5q foq gwq ghq glq sdq svq seq).trans (p_DeI w1 h1 o1 v1 w2 h2 o2 v2 a1 a2 a3 a4 a5 fo gw gh gl sd sv se w1q h1q o1q v1q w2q h2q o2q v2q a1q a2q a3q a4q a5q foq gwq ghq glq sdq svq seq r h)
end Go.Proofs.Ytffbjjngapejbaa
