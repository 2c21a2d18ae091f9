/- The seat's types and functions as data, the doors to the library. No condition. -/
import Derived.Test.YtdlcebiglolfjaaRows
import Derived.Test.YtdlcebiglolfjaaLE
namespace Go.Proofs.Ytdlcebiglolfjaa
open Go.Ab
noncomputable def tys : List (Nat × TyI) := [
  (2, ⟨(.int .i64), 1, 8, [.int .i64 0], some (EK.int .i64)⟩),
  (3, ⟨(.int .i64), 1, 8, [.int .i64 0], some (EK.int .i64)⟩),
  (4, ⟨.bool, 1, 1, [.bl false], some EK.bool⟩),
  (5, ⟨(.int .u8), 1, 1, [.int .u8 0], some (EK.int .u8)⟩),
  (6, ⟨(.int .u8), 1, 1, [.int .u8 0], some (EK.int .u8)⟩),
  (7, ⟨(.struct [(2, 0), (3, 1), (4, 2), (6, 3)]), 4, 24, [.int .i64 0, .int .i64 0, .bl false, .int .u8 0], some (EK.pair (EK.int .i64) (EK.pair (EK.int .i64) (EK.pair EK.bool (EK.int .u8))))⟩),
  (8, ⟨(.struct [(2, 0), (3, 1), (4, 2), (6, 3)]), 4, 24, [.int .i64 0, .int .i64 0, .bl false, .int .u8 0], some (EK.pair (EK.int .i64) (EK.pair (EK.int .i64) (EK.pair EK.bool (EK.int .u8))))⟩),
  (9, ⟨.str, 1, 16, [.str ByteArray.empty], some EK.str⟩),
  (10, ⟨.str, 1, 16, [.str ByteArray.empty], some EK.str⟩),
  (11, ⟨.str, 1, 16, [.str ByteArray.empty], some EK.str⟩),
  (12, ⟨(.int .u64), 1, 8, [.int .u64 0], some (EK.int .u64)⟩),
  (13, ⟨(.struct [(9, 0), (12, 1)]), 2, 24, [.str ByteArray.empty, .int .u64 0], some (EK.pair EK.str (EK.int .u64))⟩),
  (14, ⟨(.struct [(9, 0), (12, 1)]), 2, 24, [.str ByteArray.empty, .int .u64 0], some (EK.pair EK.str (EK.int .u64))⟩),
  (15, ⟨(.ptr 193), 1, 8, [.nilp], none⟩),
  (16, ⟨(.ptr 196), 1, 8, [.nilp], none⟩),
  (17, ⟨(.ptr 205), 1, 8, [.nilp], none⟩),
  (18, ⟨(.struct [(17, 0)]), 1, 8, [.nilp], none⟩),
  (19, ⟨(.struct [(17, 0)]), 1, 8, [.nilp], none⟩),
  (21, ⟨(.int .i32), 1, 4, [.int .i32 0], some (EK.int .i32)⟩),
  (22, ⟨(.slc 25), 1, 24, [.nils (some (EK.flt .f32))], none⟩),
  (23, ⟨(.struct [(22, 0), (22, 1)]), 2, 48, [.nils (some (EK.flt .f32)), .nils (some (EK.flt .f32))], none⟩),
  (24, ⟨(.struct [(22, 0), (22, 1)]), 2, 48, [.nils (some (EK.flt .f32)), .nils (some (EK.flt .f32))], none⟩),
  (25, ⟨(.flt .f32), 1, 4, [.flt .f32 (Fl.of .f32 0)], some (EK.flt .f32)⟩),
  (27, ⟨(.struct [(22, 0), (22, 1)]), 2, 48, [.nils (some (EK.flt .f32)), .nils (some (EK.flt .f32))], none⟩),
  (41, ⟨(.struct [(25, 0), (25, 1), (25, 2), (2, 3)]), 4, 24, [.flt .f32 (Fl.of .f32 0), .flt .f32 (Fl.of .f32 0), .flt .f32 (Fl.of .f32 0), .int .i64 0], some (EK.pair (EK.flt .f32) (EK.pair (EK.flt .f32) (EK.pair (EK.flt .f32) (EK.int .i64))))⟩),
  (42, ⟨(.struct [(25, 0), (25, 1), (25, 2), (2, 3)]), 4, 24, [.flt .f32 (Fl.of .f32 0), .flt .f32 (Fl.of .f32 0), .flt .f32 (Fl.of .f32 0), .int .i64 0], some (EK.pair (EK.flt .f32) (EK.pair (EK.flt .f32) (EK.pair (EK.flt .f32) (EK.int .i64))))⟩),
  (45, ⟨(.struct [(25, 0), (25, 1), (25, 2), (2, 3)]), 4, 24, [.flt .f32 (Fl.of .f32 0), .flt .f32 (Fl.of .f32 0), .flt .f32 (Fl.of .f32 0), .int .i64 0], some (EK.pair (EK.flt .f32) (EK.pair (EK.flt .f32) (EK.pair (EK.flt .f32) (EK.int .i64))))⟩),
  (52, ⟨(.flt .f64), 1, 8, [.flt .f64 (Fl.of .f64 0)], some (EK.flt .f64)⟩),
  (58, ⟨(.slc 2), 1, 24, [.nils (some (EK.int .i64))], none⟩),
  (66, ⟨(.struct [(2, 0), (2, 1), (58, 2)]), 3, 40, [.int .i64 0, .int .i64 0, .nils (some (EK.int .i64))], none⟩),
  (67, ⟨(.struct [(2, 0), (2, 1), (58, 2)]), 3, 40, [.int .i64 0, .int .i64 0, .nils (some (EK.int .i64))], none⟩),
  (69, ⟨(.struct [(2, 0), (2, 1), (58, 2)]), 3, 40, [.int .i64 0, .int .i64 0, .nils (some (EK.int .i64))], none⟩),
  (80, ⟨(.slc 136), 1, 24, [.nils (some (EK.pair (EK.cpx .f32) (EK.flt .f32)))], none⟩),
  (87, ⟨(.ptr 27), 1, 8, [.nilp], none⟩),
  (96, ⟨(.ptr 45), 1, 8, [.nilp], none⟩),
  (117, ⟨(.ptr 2), 1, 8, [.nilp], none⟩),
  (119, ⟨(.ptr 69), 1, 8, [.nilp], none⟩),
  (133, ⟨(.cpx .f32), 1, 8, [.cpx .f32 (Fl.of .f32 0) (Fl.of .f32 0)], some (EK.cpx .f32)⟩),
  (135, ⟨(.struct [(133, 0), (25, 1)]), 2, 12, [.cpx .f32 (Fl.of .f32 0) (Fl.of .f32 0), .flt .f32 (Fl.of .f32 0)], some (EK.pair (EK.cpx .f32) (EK.flt .f32))⟩),
  (136, ⟨(.struct [(133, 0), (25, 1)]), 2, 12, [.cpx .f32 (Fl.of .f32 0) (Fl.of .f32 0), .flt .f32 (Fl.of .f32 0)], some (EK.pair (EK.cpx .f32) (EK.flt .f32))⟩),
  (138, ⟨(.ptr 136), 1, 8, [.nilp], none⟩),
  (141, ⟨(.cpx .f64), 1, 16, [.cpx .f64 (Fl.of .f64 0) (Fl.of .f64 0)], some (EK.cpx .f64)⟩),
  (142, ⟨(.slc 22), 1, 24, [.nils none], none⟩),
  (176, ⟨(.arr 2 2), 2, 16, [.int .i64 0, .int .i64 0], some (EK.pair (EK.int .i64) (EK.int .i64))⟩),
  (177, ⟨(.arr 4 176), 8, 64, [.int .i64 0, .int .i64 0, .int .i64 0, .int .i64 0, .int .i64 0, .int .i64 0, .int .i64 0, .int .i64 0], none⟩),
  (183, ⟨(.int .u32), 1, 4, [.int .u32 0], some (EK.int .u32)⟩),
  (185, ⟨(.int .u64), 1, 8, [.int .u64 0], some (EK.int .u64)⟩),
  (190, ⟨(.int .u64), 1, 8, [.int .u64 0], some (EK.int .u64)⟩),
  (192, ⟨(.struct [(17, 0), (17, 1), (17, 2), (9, 3)]), 4, 40, [.nilp, .nilp, .nilp, .str ByteArray.empty], none⟩),
  (193, ⟨(.struct [(17, 0), (17, 1), (17, 2), (9, 3)]), 4, 40, [.nilp, .nilp, .nilp, .str ByteArray.empty], none⟩),
  (194, ⟨(.arr 0 16), 0, 0, [], none⟩),
  (195, ⟨(.struct [(194, 0)]), 0, 0, [], none⟩),
  (196, ⟨(.struct [(194, 0)]), 0, 0, [], none⟩),
  (198, ⟨(.int .u8), 1, 1, [.int .u8 0], some (EK.int .u8)⟩),
  (199, ⟨(.int .u8), 1, 1, [.int .u8 0], some (EK.int .u8)⟩),
  (201, ⟨(.ptr 5), 1, 8, [.nilp], none⟩),
  (202, ⟨(.int .i32), 1, 4, [.int .i32 0], some (EK.int .i32)⟩),
  (203, ⟨(.int .i32), 1, 4, [.int .i32 0], some (EK.int .i32)⟩),
  (204, ⟨(.struct [(12, 0), (12, 1), (183, 2), (198, 3), (5, 4), (5, 5), (199, 6), (200, 7), (201, 8), (202, 9), (203, 10)]), 11, 48, [.int .u64 0, .int .u64 0, .int .u32 0, .int .u8 0, .int .u8 0, .int .u8 0, .int .u8 0, .top, .nilp, .int .i32 0, .int .i32 0], none⟩),
  (205, ⟨(.struct [(12, 0), (12, 1), (183, 2), (198, 3), (5, 4), (5, 5), (199, 6), (200, 7), (201, 8), (202, 9), (203, 10)]), 11, 48, [.int .u64 0, .int .u64 0, .int .u32 0, .int .u8 0, .int .u8 0, .int .u8 0, .int .u8 0, .top, .nilp, .int .i32 0, .int .i32 0], none⟩)]
theorem tysOk : tysB Try.prog tys = true := by kernel_rfl
theorem mixed : Try.prog.follows .mixedOrders = true := by kernel_rfl
def fs : List Nat := List.range 217
theorem fnsOk : fnsB Try.prog fs = true := by kernel_rfl
def noLoop (_ _ _ : Nat) : Option LSpec := none
theorem own : ownKnob Try.prog.godebug = none := by kernel_rfl
theorem laidOut : laidOutB Try.prog = true := by kernel_rfl
end Go.Proofs.Ytdlcebiglolfjaa
