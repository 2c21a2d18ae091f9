/- The program's ValidLaw answers as the reference's does, at all arguments. No condition. -/
import Derived.Test.YthikgdgnfhafaaaRows
import Derived.Test.YthikgdgnfhafaaaAbSpec
namespace Go.Proofs.Ythikgdgnfhafaaa
open Go.Ab
noncomputable def tys : List (Nat × TyI) := [
  (2, ⟨(.int .i64), 1, 8, [.int .i64 0], some (EK.int .i64)⟩),
  (3, ⟨(.int .i64), 1, 8, [.int .i64 0], some (EK.int .i64)⟩),
  (4, ⟨.bool, 1, 1, [.bl false], some EK.bool⟩),
  (5, ⟨(.int .u8), 1, 1, [.int .u8 0], some (EK.int .u8)⟩),
  (6, ⟨(.int .u8), 1, 1, [.int .u8 0], some (EK.int .u8)⟩),
  (7, ⟨(.struct [(2, 0), (3, 1), (4, 2), (6, 3)]), 4, 24, [.int .i64 0, .int .i64 0, .bl false, .int .u8 0], some (EK.pair (EK.int .i64) (EK.pair (EK.int .i64) (EK.pair EK.bool (EK.int .u8))))⟩),
  (8, ⟨(.struct [(2, 0), (3, 1), (4, 2), (6, 3)]), 4, 24, [.int .i64 0, .int .i64 0, .bl false, .int .u8 0], some (EK.pair (EK.int .i64) (EK.pair (EK.int .i64) (EK.pair EK.bool (EK.int .u8))))⟩),
  (9, ⟨.str, 1, 16, [.str ByteArray.empty], some EK.str⟩),
  (10, ⟨.str, 1, 16, [.str ByteArray.empty], some EK.str⟩),
  (11, ⟨.str, 1, 16, [.str ByteArray.empty], some EK.str⟩),
  (12, ⟨(.int .u64), 1, 8, [.int .u64 0], some (EK.int .u64)⟩),
  (13, ⟨(.struct [(9, 0), (12, 1)]), 2, 24, [.str ByteArray.empty, .int .u64 0], some (EK.pair EK.str (EK.int .u64))⟩),
  (14, ⟨(.struct [(9, 0), (12, 1)]), 2, 24, [.str ByteArray.empty, .int .u64 0], some (EK.pair EK.str (EK.int .u64))⟩),
  (15, ⟨(.ptr 80), 1, 8, [.nilp], none⟩),
  (16, ⟨(.ptr 83), 1, 8, [.nilp], none⟩),
  (17, ⟨(.ptr 92), 1, 8, [.nilp], none⟩),
  (18, ⟨(.struct [(17, 0)]), 1, 8, [.nilp], none⟩),
  (19, ⟨(.struct [(17, 0)]), 1, 8, [.nilp], none⟩),
  (21, ⟨(.int .i32), 1, 4, [.int .i32 0], some (EK.int .i32)⟩),
  (22, ⟨(.flt .f32), 1, 4, [.flt .f32 (Fl.of .f32 0)], some (EK.flt .f32)⟩),
  (23, ⟨(.struct [(22, 0), (22, 1), (22, 2), (2, 3)]), 4, 24, [.flt .f32 (Fl.of .f32 0), .flt .f32 (Fl.of .f32 0), .flt .f32 (Fl.of .f32 0), .int .i64 0], some (EK.pair (EK.flt .f32) (EK.pair (EK.flt .f32) (EK.pair (EK.flt .f32) (EK.int .i64))))⟩),
  (24, ⟨(.struct [(22, 0), (22, 1), (22, 2), (2, 3)]), 4, 24, [.flt .f32 (Fl.of .f32 0), .flt .f32 (Fl.of .f32 0), .flt .f32 (Fl.of .f32 0), .int .i64 0], some (EK.pair (EK.flt .f32) (EK.pair (EK.flt .f32) (EK.pair (EK.flt .f32) (EK.int .i64))))⟩),
  (26, ⟨(.struct [(22, 0), (22, 1), (22, 2), (2, 3)]), 4, 24, [.flt .f32 (Fl.of .f32 0), .flt .f32 (Fl.of .f32 0), .flt .f32 (Fl.of .f32 0), .int .i64 0], some (EK.pair (EK.flt .f32) (EK.pair (EK.flt .f32) (EK.pair (EK.flt .f32) (EK.int .i64))))⟩),
  (31, ⟨(.flt .f64), 1, 8, [.flt .f64 (Fl.of .f64 0)], some (EK.flt .f64)⟩),
  (33, ⟨(.slc 22), 1, 24, [.nils (some (EK.flt .f32))], none⟩),
  (34, ⟨(.struct [(33, 0), (33, 1)]), 2, 48, [.nils (some (EK.flt .f32)), .nils (some (EK.flt .f32))], none⟩),
  (35, ⟨(.struct [(33, 0), (33, 1)]), 2, 48, [.nils (some (EK.flt .f32)), .nils (some (EK.flt .f32))], none⟩),
  (38, ⟨(.struct [(33, 0), (33, 1)]), 2, 48, [.nils (some (EK.flt .f32)), .nils (some (EK.flt .f32))], none⟩),
  (52, ⟨(.ptr 26), 1, 8, [.nilp], none⟩),
  (62, ⟨(.ptr 38), 1, 8, [.nilp], none⟩),
  (67, ⟨(.int .u64), 1, 8, [.int .u64 0], some (EK.int .u64)⟩),
  (75, ⟨(.int .u32), 1, 4, [.int .u32 0], some (EK.int .u32)⟩),
  (79, ⟨(.struct [(17, 0), (17, 1), (17, 2), (9, 3)]), 4, 40, [.nilp, .nilp, .nilp, .str ByteArray.empty], none⟩),
  (80, ⟨(.struct [(17, 0), (17, 1), (17, 2), (9, 3)]), 4, 40, [.nilp, .nilp, .nilp, .str ByteArray.empty], none⟩),
  (81, ⟨(.arr 0 16), 0, 0, [], none⟩),
  (82, ⟨(.struct [(81, 0)]), 0, 0, [], none⟩),
  (83, ⟨(.struct [(81, 0)]), 0, 0, [], none⟩),
  (85, ⟨(.int .u8), 1, 1, [.int .u8 0], some (EK.int .u8)⟩),
  (86, ⟨(.int .u8), 1, 1, [.int .u8 0], some (EK.int .u8)⟩),
  (88, ⟨(.ptr 5), 1, 8, [.nilp], none⟩),
  (89, ⟨(.int .i32), 1, 4, [.int .i32 0], some (EK.int .i32)⟩),
  (90, ⟨(.int .i32), 1, 4, [.int .i32 0], some (EK.int .i32)⟩),
  (91, ⟨(.struct [(12, 0), (12, 1), (75, 2), (85, 3), (5, 4), (5, 5), (86, 6), (87, 7), (88, 8), (89, 9), (90, 10)]), 11, 48, [.int .u64 0, .int .u64 0, .int .u32 0, .int .u8 0, .int .u8 0, .int .u8 0, .int .u8 0, .top, .nilp, .int .i32 0, .int .i32 0], none⟩),
  (92, ⟨(.struct [(12, 0), (12, 1), (75, 2), (85, 3), (5, 4), (5, 5), (86, 6), (87, 7), (88, 8), (89, 9), (90, 10)]), 11, 48, [.int .u64 0, .int .u64 0, .int .u32 0, .int .u8 0, .int .u8 0, .int .u8 0, .int .u8 0, .top, .nilp, .int .i32 0, .int .i32 0], none⟩)]
theorem tysOk : tysB Try.prog tys = true := by kernel_rfl
theorem mixed : Try.prog.follows .mixedOrders = true := by kernel_rfl
theorem ext59 : SpecOk' Try.prog 59 from64S := from64_ok (fn := Try.f59) rfl rfl rfl rfl rfl
theorem ext74 : SpecOk' Try.prog 74 bits64S := bits64_ok (fn := Try.f74) rfl rfl rfl rfl rfl

def fs : List Nat := List.range 92
theorem fnsOk : fnsB Try.prog fs = true := by kernel_rfl

def finS : FSpec := ⟨[.flt .f32], [.bool], fun x => some (fin x)⟩
noncomputable def Γ33 : Ctx := ctxOf Try.prog tys fs [(59, from64S), (74, bits64S)] fun _ _ _ => none
theorem e33 (x : Fl .f32) : (fnT Γ33 10 33 [.flt .f32] [.bool] x).den = some (fin x) := by
  have e : (fnT Γ33 10 33 [.flt .f32] [.bool] x).den = (bif !fne (fwide x) (fwide x) then (fbits .f64 (fwide x)).bind (fun r0 => (ofBits .f64 (ibits .andNot .u64 r0 9223372036854775808)).bind fun r1 => some (!fgt r1 (Fl.of .f64 9218868437227405311))) else some false) := by kernel_rfl
  rw [e, isInf_tree, fin_wide]
theorem s33 : SpecOk' Try.prog 33 finS :=
  walked (fs := fs) (ss := [(59, from64S), (74, bits64S)]) (loop := fun _ _ _ => none) tysOk mixed fnsOk ⟨ext59, ext74, trivial⟩ 10 33 _ _ rfl _ fun x _ h => (e33 x).trans h

noncomputable def Γ3 : Ctx := ctxOf Try.prog tys fs [(33, finS)] fun _ _ _ => none

/-! ### FnExactValidLaw -/
def validL (x y z : Fl .f32) (n : Int) : Bool := bif fin x then (bif fin y then (bif fgt y (Fl.of .f32 0) then (bif fin z then (bif fgt z (Fl.of .f32 0) then (bif decide (1 ≤ n) then decide (n ≤ 4) else false) else false) else false) else false) else false) else false
theorem validL_eq (x y z : Fl .f32) (n : Int) : (bif fin x then (bif fin y then (bif fgt y (Fl.of .f32 0) then (bif fin z then (bif fgt z (Fl.of .f32 0) then (bif decide (1 ≤ n) then some (decide (n ≤ 4)) else some false) else some false) else some false) else some false) else some false) else some false) = some (validL x y z n) := by
  unfold validL
  cases fin x <;> cases fin y <;> cases fgt y (Fl.of .f32 0) <;> cases fin z <;> cases fgt z (Fl.of .f32 0) <;> cases decide (1 ≤ n) <;> rfl
abbrev lawD : DS := .agg [.flt .f32, .flt .f32, .flt .f32, .int .i64]
theorem e10 (x y z : Fl .f32) (n : Int) : (fnT Γ3 10 10 [lawD] [.bool] (x, y, z, n)).den = some (validL x y z n) := by
  have e : (fnT Γ3 10 10 [lawD] [.bool] (x, y, z, n)).den = (bif feq (fsub x x) (Fl.of FloatKind.f32 0) then (bif feq (fsub y y) (Fl.of FloatKind.f32 0) then (bif fgt y (Fl.of FloatKind.f32 0) then (bif feq (fsub z z) (Fl.of FloatKind.f32 0) then (bif fgt z (Fl.of FloatKind.f32 0) then (bif decide (n ≥ 1) then (some (decide (n ≤ 4))) else (some (Bool.false))) else (some (Bool.false))) else (some (Bool.false))) else (some (Bool.false))) else (some (Bool.false))) else (some (Bool.false))) := by kernel_rfl
  rw [e, feq_sub_self, feq_sub_self, feq_sub_self]
  exact validL_eq x y z n
theorem e12 (x y z : Fl .f32) (n : Int) : (fnT Γ3 10 12 [lawD] [.bool] (x, y, z, n)).den = some (validL x y z n) := by
  have e : (fnT Γ3 10 12 [lawD] [.bool] (x, y, z, n)).den = (bif fin x then (bif fin y then (bif fgt y (Fl.of .f32 0) then (bif fin z then (bif fgt z (Fl.of .f32 0) then (bif decide (1 ≤ n) then some (decide (n ≤ 4)) else some false) else some false) else some false) else some false) else some false) else some false) := by kernel_rfl
  exact e.trans (validL_eq x y z n)
def lawS : FSpec := ⟨[lawD], [.bool], fun x => some (validL x.1 x.2.1 x.2.2.1 x.2.2.2)⟩
theorem s10 : SpecOk' Try.prog 10 lawS :=
  walked (fs := fs) (ss := [(33, finS)]) (loop := fun _ _ _ => none) tysOk mixed fnsOk ⟨s33, trivial⟩ 10 10 [lawD] [.bool] rfl _ fun (x, y, z, n) _ h => (e10 x y z n).trans h
theorem s12 : SpecOk' Try.prog 12 lawS :=
  walked (fs := fs) (ss := [(33, finS)]) (loop := fun _ _ _ => none) tysOk mixed fnsOk ⟨s33, trivial⟩ 10 12 [lawD] [.bool] rfl _ fun (x, y, z, n) _ h => (e12 x y z n).trans h
noncomputable def ΓL : Ctx := ctxOf Try.prog tys fs [(10, lawS), (12, lawS)] fun _ _ _ => none
theorem e3 (x y z : Fl .f32) (n : Int) : (fnT ΓL 10 3 [lawD] [.bool] (x, y, z, n)).den = some true := by
  have e : (fnT ΓL 10 3 [lawD] [.bool] (x, y, z, n)).den = (bif !validL x y z n == validL x y z n then some false else some true) := by kernel_rfl
  rw [e]
  cases validL x y z n <;> rfl
theorem s3 : SpecOk' Try.prog 3 ⟨[lawD], [.bool], fun _ => some true⟩ :=
  walked (fs := fs) (ss := [(10, lawS), (12, lawS)]) (loop := fun _ _ _ => none) tysOk mixed fnsOk ⟨s10, s12, trivial⟩ 10 3 [lawD] [.bool] rfl _ fun (x, y, z, n) _ h => (e3 x y z n).trans h

theorem own : ownKnob Try.prog.godebug = none := by kernel_rfl
theorem laidOut : laidOutB Try.prog = true := by kernel_rfl
open Go.RowKit Go.ChangeShapes Go.WideShapes Go.ChangeAt
set_option maxRecDepth 100000 in
theorem lifted (os : Os) (started : os.Started) (H : Type) (enc : TypeId × Value → H) :
    ReturnsInHanded {} Try.checked os 3 .any (Rows.fnExactValidLawSpec.pre6 enc Try.prog Try.f3 Rows.fnExactValidLawRow.domain false) (Rows.fnExactValidLawSpec.post enc Try.prog Try.f3 false true false false) := by
  refine returnsInHanded_of_change (C := Try.checked) own started (by kernel_rfl) Try.func3
    (ChangeSpec.witness6 (enc := enc) (C := Try.checked) false ⟨#[], #[.agg #[.float .f32 0, .float .f32 0, .float .f32 0, .int .i64 0]], []⟩ 8 (by kernel_rfl) (by kernel_rfl) (by kernel_rfl) (by kernel_rfl)) ?_
  intro W base args ds gs before hval hW _ _
  exact law_post (P := Try.prog) (fn := Try.f3) (s := Rows.fnExactValidLawSpec) laidOut s3 Try.func3 rfl (by kernel_rfl) (by kernel_rfl) (by kernel_rfl) rfl Try.underlying4 rfl (fun ds h => by
    match ds, h with
    | [d], _ => exact ⟨rfl, rfl, rfl⟩) (fun _ _ => rfl) W base args ds gs before hval hW

theorem over : Rows.FnExactValidLawSaid :=
  OpenClaim.holds_of_wide 3 Try.f3 rfl rfl rfl rfl rfl rfl rfl ⟨rfl, rfl, rfl, rfl, rfl⟩ rfl rfl rfl rfl rfl (by kernel_rfl) Try.func3 (by kernel_rfl)
    (of_decide_eq_true (by kernel_rfl)) (by unfold Func.isWrapper; first | (rw [if_pos (by decide +kernel)]; kernel_rfl) | (rw [if_neg (by decide +kernel)]; exact ⟨rfl, rfl⟩))
    (fun os started H enc _ => lifted os started H enc)
end Go.Proofs.Ythikgdgnfhafaaa
