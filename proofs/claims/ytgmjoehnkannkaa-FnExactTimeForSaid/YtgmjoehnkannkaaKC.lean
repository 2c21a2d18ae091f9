/- The seat's types and functions as data, the doors to the library. No condition. -/
import Derived.Test.YtgmjoehnkannkaaRows
import Derived.Test.YtgmjoehnkannkaaLE
namespace Go.Proofs.Ytgmjoehnkannkaa
open Go.Ab
noncomputable def tys : List (Nat × TyI) := [
  (2, ⟨(.int .i64), 1, 8, [.int .i64 0], some (EK.int .i64)⟩),
  (3, ⟨(.int .i64), 1, 8, [.int .i64 0], some (EK.int .i64)⟩),
  (4, ⟨.bool, 1, 1, [.bl false], some EK.bool⟩),
  (5, ⟨(.int .u8), 1, 1, [.int .u8 0], some (EK.int .u8)⟩),
  (6, ⟨(.int .u8), 1, 1, [.int .u8 0], some (EK.int .u8)⟩),
  (7, ⟨(.struct [(2, 0), (3, 1), (4, 2), (6, 3)]), 4, 24, [.int .i64 0, .int .i64 0, .bl false, .int .u8 0], some (EK.pair (EK.int .i64) (EK.pair (EK.int .i64) (EK.pair EK.bool (EK.int .u8))))⟩),
  (8, ⟨(.struct [(2, 0), (3, 1), (4, 2), (6, 3)]), 4, 24, [.int .i64 0, .int .i64 0, .bl false, .int .u8 0], some (EK.pair (EK.int .i64) (EK.pair (EK.int .i64) (EK.pair EK.bool (EK.int .u8))))⟩),
  (9, ⟨.str, 1, 16, [.str ByteArray.empty], some EK.str⟩),
  (10, ⟨.str, 1, 16, [.str ByteArray.empty], some EK.str⟩),
  (11, ⟨.str, 1, 16, [.str ByteArray.empty], some EK.str⟩),
  (12, ⟨(.int .u64), 1, 8, [.int .u64 0], some (EK.int .u64)⟩),
  (13, ⟨(.struct [(9, 0), (12, 1)]), 2, 24, [.str ByteArray.empty, .int .u64 0], some (EK.pair EK.str (EK.int .u64))⟩),
  (14, ⟨(.struct [(9, 0), (12, 1)]), 2, 24, [.str ByteArray.empty, .int .u64 0], some (EK.pair EK.str (EK.int .u64))⟩),
  (15, ⟨(.ptr 98), 1, 8, [.nilp], none⟩),
  (16, ⟨(.ptr 101), 1, 8, [.nilp], none⟩),
  (17, ⟨(.ptr 111), 1, 8, [.nilp], none⟩),
  (18, ⟨(.struct [(17, 0)]), 1, 8, [.nilp], none⟩),
  (19, ⟨(.struct [(17, 0)]), 1, 8, [.nilp], none⟩),
  (21, ⟨(.int .i32), 1, 4, [.int .i32 0], some (EK.int .i32)⟩),
  (22, ⟨(.flt .f32), 1, 4, [.flt .f32 (Fl.of .f32 0)], some (EK.flt .f32)⟩),
  (25, ⟨(.flt .f64), 1, 8, [.flt .f64 (Fl.of .f64 0)], some (EK.flt .f64)⟩),
  (27, ⟨(.slc 22), 1, 24, [.nils (some (EK.flt .f32))], none⟩),
  (33, ⟨(.struct [(22, 0), (22, 1), (22, 2), (2, 3)]), 4, 24, [.flt .f32 (Fl.of .f32 0), .flt .f32 (Fl.of .f32 0), .flt .f32 (Fl.of .f32 0), .int .i64 0], some (EK.pair (EK.flt .f32) (EK.pair (EK.flt .f32) (EK.pair (EK.flt .f32) (EK.int .i64))))⟩),
  (34, ⟨(.struct [(22, 0), (22, 1), (22, 2), (2, 3)]), 4, 24, [.flt .f32 (Fl.of .f32 0), .flt .f32 (Fl.of .f32 0), .flt .f32 (Fl.of .f32 0), .int .i64 0], some (EK.pair (EK.flt .f32) (EK.pair (EK.flt .f32) (EK.pair (EK.flt .f32) (EK.int .i64))))⟩),
  (37, ⟨(.struct [(22, 0), (22, 1), (22, 2), (2, 3)]), 4, 24, [.flt .f32 (Fl.of .f32 0), .flt .f32 (Fl.of .f32 0), .flt .f32 (Fl.of .f32 0), .int .i64 0], some (EK.pair (EK.flt .f32) (EK.pair (EK.flt .f32) (EK.pair (EK.flt .f32) (EK.int .i64))))⟩),
  (42, ⟨(.struct [(27, 0), (27, 1)]), 2, 48, [.nils (some (EK.flt .f32)), .nils (some (EK.flt .f32))], none⟩),
  (43, ⟨(.struct [(27, 0), (27, 1)]), 2, 48, [.nils (some (EK.flt .f32)), .nils (some (EK.flt .f32))], none⟩),
  (46, ⟨(.struct [(27, 0), (27, 1)]), 2, 48, [.nils (some (EK.flt .f32)), .nils (some (EK.flt .f32))], none⟩),
  (68, ⟨(.ptr 37), 1, 8, [.nilp], none⟩),
  (74, ⟨(.ptr 46), 1, 8, [.nilp], none⟩),
  (87, ⟨(.int .u64), 1, 8, [.int .u64 0], some (EK.int .u64)⟩),
  (91, ⟨(.slc 27), 1, 24, [.nils none], none⟩),
  (97, ⟨(.struct [(17, 0), (17, 1), (17, 2), (9, 3)]), 4, 40, [.nilp, .nilp, .nilp, .str ByteArray.empty], none⟩),
  (98, ⟨(.struct [(17, 0), (17, 1), (17, 2), (9, 3)]), 4, 40, [.nilp, .nilp, .nilp, .str ByteArray.empty], none⟩),
  (99, ⟨(.arr 0 16), 0, 0, [], none⟩),
  (100, ⟨(.struct [(99, 0)]), 0, 0, [], none⟩),
  (101, ⟨(.struct [(99, 0)]), 0, 0, [], none⟩),
  (103, ⟨(.int .u32), 1, 4, [.int .u32 0], some (EK.int .u32)⟩),
  (104, ⟨(.int .u8), 1, 1, [.int .u8 0], some (EK.int .u8)⟩),
  (105, ⟨(.int .u8), 1, 1, [.int .u8 0], some (EK.int .u8)⟩),
  (107, ⟨(.ptr 5), 1, 8, [.nilp], none⟩),
  (108, ⟨(.int .i32), 1, 4, [.int .i32 0], some (EK.int .i32)⟩),
  (109, ⟨(.int .i32), 1, 4, [.int .i32 0], some (EK.int .i32)⟩),
  (110, ⟨(.struct [(12, 0), (12, 1), (103, 2), (104, 3), (5, 4), (5, 5), (105, 6), (106, 7), (107, 8), (108, 9), (109, 10)]), 11, 48, [.int .u64 0, .int .u64 0, .int .u32 0, .int .u8 0, .int .u8 0, .int .u8 0, .int .u8 0, .top, .nilp, .int .i32 0, .int .i32 0], none⟩),
  (111, ⟨(.struct [(12, 0), (12, 1), (103, 2), (104, 3), (5, 4), (5, 5), (105, 6), (106, 7), (107, 8), (108, 9), (109, 10)]), 11, 48, [.int .u64 0, .int .u64 0, .int .u32 0, .int .u8 0, .int .u8 0, .int .u8 0, .int .u8 0, .top, .nilp, .int .i32 0, .int .i32 0], none⟩)]
theorem tysOk : tysB Try.prog tys = true := by kernel_rfl
theorem mixed : Try.prog.follows .mixedOrders = true := by kernel_rfl
def fs : List Nat := List.range 121
theorem fnsOk : fnsB Try.prog fs = true := by kernel_rfl
def noLoop (_ _ _ : Nat) : Option LSpec := none
theorem own : ownKnob Try.prog.godebug = none := by kernel_rfl
theorem laidOut : laidOutB Try.prog = true := by kernel_rfl
end Go.Proofs.Ytgmjoehnkannkaa
