/- Flakes: the program's neighbours, and the closure of its step. No condition. -/
import Derived.Test.YtjggcekliaalgaaF2
namespace Go.Proofs.Ytjggcekliaalgaa
open Go.Ab
def bkL (n x y : Int) (k : Nat) : LI := ((nearL n x y).take k).filter fun z => decide (0 ≤ z)
def besL (n x y : Int) : LI := (nearL n x y).filter fun z => decide (0 ≤ z)
theorem bk_yes {n x y u v : Int} {k : Nat} (h1 : 3 ≤ n) (hd : dirs[k]? = some (u, v)) (hb : insB n (x + u) (y + v) = true) : bkL n x y (k + 1) = bkL n x y k ++ [x + u + n * (y + v)] := by
  unfold bkL
  rw [near_step n x y (x + u) (y + v) k (u, v) hd rfl rfl, hb, cond_true, List.filter_append]
  have : 0 ≤ x + u + n * (y + v) := by
    unfold insB at hb
    simp only [Bool.and_eq_true, decide_eq_true_iff] at hb
    have := Int.mul_nonneg (show 0 ≤ n by omega) hb.2.1
    omega
  rw [List.filter_cons_of_pos (by rw [decide_eq_true this])]
  rfl
theorem bk_no {n x y u v : Int} {k : Nat} (hd : dirs[k]? = some (u, v)) (hb : insB n (x + u) (y + v) = false) : bkL n x y (k + 1) = bkL n x y k := by
  unfold bkL
  rw [near_step n x y (x + u) (y + v) k (u, v) hd rfl rfl, hb, cond_false, List.filter_append]
  simp
theorem bk_len (n x y : Int) (k : Nat) : (bkL n x y k).length ≤ 6 := by
  unfold bkL
  refine Nat.le_trans (List.length_filter_le _ _) ?_
  rw [List.length_take]
  exact Nat.min_le_right _ _
def besG (x : FlT × Int × Int) : Option LI := if (3 ≤ x.1.1 ∧ x.1.1 ≤ 16) ∧ (0 ≤ x.2.1 ∧ x.2.1 < x.1.1) ∧ 0 ≤ x.2.2 ∧ x.2.2 < x.1.1 then some (besL x.1.1 x.2.1 x.2.2) else none
def besS : FSpec := ⟨[FlD, I64, I64], [L64], besG⟩
def L_bes_1 : LSpec := ⟨[1, 2, 3, 7, 17, 18], ⟨Shs.at 56 [(1, (.int IntKind.i64)), (2, (.int IntKind.i64)), (3, (.ptr 2146435264 0 0)), (7, (.slc 2146435265)), (17, (.agg (.cons (.int IntKind.i64) (.cons (.int IntKind.i64) (.cons (.int IntKind.i64) (.cons (.int IntKind.i64) (.cons (.int IntKind.i64) (.cons (.int IntKind.i64) (.cons (.int IntKind.i64) (.cons (.int IntKind.i64) (.cons (.int IntKind.i64) (.cons (.int IntKind.i64) (.cons (.int IntKind.i64) (.cons (.int IntKind.i64) .nil)))))))))))))), (18, (.int IntKind.i64))], [(2, (.arr false (EK.flt FloatKind.f32))), (2146435264, (.vals true (.cons (.int IntKind.i64) (.cons (.slc 2) .nil)))), (2146435265, (.arr true (EK.int IntKind.i64)))]⟩, [⟨.ext 0, [7], ⟨Shs.at 56 [(7, (.slc 2146435264))], [(2, (.arr false (EK.flt FloatKind.f32))), (2146435264, (.arr true (EK.int IntKind.i64)))]⟩⟩], fun _ => bigN⟩
def loops_bes (f k n : Nat) : Option LSpec := bif (Nat.beq f 116 && Nat.beq k 3 && Nat.beq n 1) then some L_bes_1 else none
abbrev S_bes_1 : Type := ((Int × (Int × (Nat × ((Int × (Int × (Int × (Int × (Int × (Int × (Int × (Int × (Int × (Int × (Int × (Int × Unit)))))))))))) × (Int × Unit))))) × ((List (Fl .f32)) × ((Int × (Nat × Unit)) × ((List Int) × Unit))))
abbrev R_bes_1 : Type := ((Nat × Unit) × ((List (Fl .f32)) × ((List Int) × Unit)))
noncomputable def B_bes_1 (y : S_bes_1) : Option (S_bes_1 ⊕ R_bes_1) := bif decide (y.1.2.2.2.2.1 < 6) then (bif inB y.1.2.2.2.2.1 [(y.1.2.2.2.1.1, y.1.2.2.2.1.2.1), (y.1.2.2.2.1.2.2.1, y.1.2.2.2.1.2.2.2.1), (y.1.2.2.2.1.2.2.2.2.1, y.1.2.2.2.1.2.2.2.2.2.1), (y.1.2.2.2.1.2.2.2.2.2.2.1, y.1.2.2.2.1.2.2.2.2.2.2.2.1), (y.1.2.2.2.1.2.2.2.2.2.2.2.2.1, y.1.2.2.2.1.2.2.2.2.2.2.2.2.2.1), (y.1.2.2.2.1.2.2.2.2.2.2.2.2.2.2.1, y.1.2.2.2.1.2.2.2.2.2.2.2.2.2.2.2.1)].length && decide ([(y.1.2.2.2.1.1, y.1.2.2.2.1.2.1), (y.1.2.2.2.1.2.2.1, y.1.2.2.2.1.2.2.2.1), (y.1.2.2.2.1.2.2.2.2.1, y.1.2.2.2.1.2.2.2.2.2.1), (y.1.2.2.2.1.2.2.2.2.2.2.1, y.1.2.2.2.1.2.2.2.2.2.2.2.1), (y.1.2.2.2.1.2.2.2.2.2.2.2.2.1, y.1.2.2.2.1.2.2.2.2.2.2.2.2.2.1), (y.1.2.2.2.1.2.2.2.2.2.2.2.2.2.2.1, y.1.2.2.2.1.2.2.2.2.2.2.2.2.2.2.2.1)].length = 6) then (bif inB 0 [([(y.1.2.2.2.1.1, y.1.2.2.2.1.2.1), (y.1.2.2.2.1.2.2.1, y.1.2.2.2.1.2.2.2.1), (y.1.2.2.2.1.2.2.2.2.1, y.1.2.2.2.1.2.2.2.2.2.1), (y.1.2.2.2.1.2.2.2.2.2.2.1, y.1.2.2.2.1.2.2.2.2.2.2.2.1), (y.1.2.2.2.1.2.2.2.2.2.2.2.2.1, y.1.2.2.2.1.2.2.2.2.2.2.2.2.2.1), (y.1.2.2.2.1.2.2.2.2.2.2.2.2.2.2.1, y.1.2.2.2.1.2.2.2.2.2.2.2.2.2.2.2.1)].getD (Int.toNat y.1.2.2.2.2.1) ((EK.int IntKind.i64).pair (EK.int IntKind.i64)).dflt).1, ([(y.1.2.2.2.1.1, y.1.2.2.2.1.2.1), (y.1.2.2.2.1.2.2.1, y.1.2.2.2.1.2.2.2.1), (y.1.2.2.2.1.2.2.2.2.1, y.1.2.2.2.1.2.2.2.2.2.1), (y.1.2.2.2.1.2.2.2.2.2.2.1, y.1.2.2.2.1.2.2.2.2.2.2.2.1), (y.1.2.2.2.1.2.2.2.2.2.2.2.2.1, y.1.2.2.2.1.2.2.2.2.2.2.2.2.2.1), (y.1.2.2.2.1.2.2.2.2.2.2.2.2.2.2.1, y.1.2.2.2.1.2.2.2.2.2.2.2.2.2.2.2.1)].getD (Int.toNat y.1.2.2.2.2.1) ((EK.int IntKind.i64).pair (EK.int IntKind.i64)).dflt).2].length && decide ([([(y.1.2.2.2.1.1, y.1.2.2.2.1.2.1), (y.1.2.2.2.1.2.2.1, y.1.2.2.2.1.2.2.2.1), (y.1.2.2.2.1.2.2.2.2.1, y.1.2.2.2.1.2.2.2.2.2.1), (y.1.2.2.2.1.2.2.2.2.2.2.1, y.1.2.2.2.1.2.2.2.2.2.2.2.1), (y.1.2.2.2.1.2.2.2.2.2.2.2.2.1, y.1.2.2.2.1.2.2.2.2.2.2.2.2.2.1), (y.1.2.2.2.1.2.2.2.2.2.2.2.2.2.2.1, y.1.2.2.2.1.2.2.2.2.2.2.2.2.2.2.2.1)].getD (Int.toNat y.1.2.2.2.2.1) ((EK.int IntKind.i64).pair (EK.int IntKind.i64)).dflt).1, ([(y.1.2.2.2.1.1, y.1.2.2.2.1.2.1), (y.1.2.2.2.1.2.2.1, y.1.2.2.2.1.2.2.2.1), (y.1.2.2.2.1.2.2.2.2.1, y.1.2.2.2.1.2.2.2.2.2.1), (y.1.2.2.2.1.2.2.2.2.2.2.1, y.1.2.2.2.1.2.2.2.2.2.2.2.1), (y.1.2.2.2.1.2.2.2.2.2.2.2.2.1, y.1.2.2.2.1.2.2.2.2.2.2.2.2.2.1), (y.1.2.2.2.1.2.2.2.2.2.2.2.2.2.2.1, y.1.2.2.2.1.2.2.2.2.2.2.2.2.2.2.2.1)].getD (Int.toNat y.1.2.2.2.2.1) ((EK.int IntKind.i64).pair (EK.int IntKind.i64)).dflt).2].length = 2) then (Option.bind (withinG (IntKind.i64.wrap (y.1.1 + [([(y.1.2.2.2.1.1, y.1.2.2.2.1.2.1), (y.1.2.2.2.1.2.2.1, y.1.2.2.2.1.2.2.2.1), (y.1.2.2.2.1.2.2.2.2.1, y.1.2.2.2.1.2.2.2.2.2.1), (y.1.2.2.2.1.2.2.2.2.2.2.1, y.1.2.2.2.1.2.2.2.2.2.2.2.1), (y.1.2.2.2.1.2.2.2.2.2.2.2.2.1, y.1.2.2.2.1.2.2.2.2.2.2.2.2.2.1), (y.1.2.2.2.1.2.2.2.2.2.2.2.2.2.2.1, y.1.2.2.2.1.2.2.2.2.2.2.2.2.2.2.2.1)].getD (Int.toNat y.1.2.2.2.2.1) ((EK.int IntKind.i64).pair (EK.int IntKind.i64)).dflt).1, ([(y.1.2.2.2.1.1, y.1.2.2.2.1.2.1), (y.1.2.2.2.1.2.2.1, y.1.2.2.2.1.2.2.2.1), (y.1.2.2.2.1.2.2.2.2.1, y.1.2.2.2.1.2.2.2.2.2.1), (y.1.2.2.2.1.2.2.2.2.2.2.1, y.1.2.2.2.1.2.2.2.2.2.2.2.1), (y.1.2.2.2.1.2.2.2.2.2.2.2.2.1, y.1.2.2.2.1.2.2.2.2.2.2.2.2.2.1), (y.1.2.2.2.1.2.2.2.2.2.2.2.2.2.2.1, y.1.2.2.2.1.2.2.2.2.2.2.2.2.2.2.2.1)].getD (Int.toNat y.1.2.2.2.2.1) ((EK.int IntKind.i64).pair (EK.int IntKind.i64)).dflt).2].getD (Int.toNat 0) (0 : Int)), 0, IntKind.i64.wrap (y.2.2.1.1 - 1))) fun (r1 : Bool) => (bif r1 then (bif inB 1 [([(y.1.2.2.2.1.1, y.1.2.2.2.1.2.1), (y.1.2.2.2.1.2.2.1, y.1.2.2.2.1.2.2.2.1), (y.1.2.2.2.1.2.2.2.2.1, y.1.2.2.2.1.2.2.2.2.2.1), (y.1.2.2.2.1.2.2.2.2.2.2.1, y.1.2.2.2.1.2.2.2.2.2.2.2.1), (y.1.2.2.2.1.2.2.2.2.2.2.2.2.1, y.1.2.2.2.1.2.2.2.2.2.2.2.2.2.1), (y.1.2.2.2.1.2.2.2.2.2.2.2.2.2.2.1, y.1.2.2.2.1.2.2.2.2.2.2.2.2.2.2.2.1)].getD (Int.toNat y.1.2.2.2.2.1) ((EK.int IntKind.i64).pair (EK.int IntKind.i64)).dflt).1, ([(y.1.2.2.2.1.1, y.1.2.2.2.1.2.1), (y.1.2.2.2.1.2.2.1, y.1.2.2.2.1.2.2.2.1), (y.1.2.2.2.1.2.2.2.2.1, y.1.2.2.2.1.2.2.2.2.2.1), (y.1.2.2.2.1.2.2.2.2.2.2.1, y.1.2.2.2.1.2.2.2.2.2.2.2.1), (y.1.2.2.2.1.2.2.2.2.2.2.2.2.1, y.1.2.2.2.1.2.2.2.2.2.2.2.2.2.1), (y.1.2.2.2.1.2.2.2.2.2.2.2.2.2.2.1, y.1.2.2.2.1.2.2.2.2.2.2.2.2.2.2.2.1)].getD (Int.toNat y.1.2.2.2.2.1) ((EK.int IntKind.i64).pair (EK.int IntKind.i64)).dflt).2].length && decide ([([(y.1.2.2.2.1.1, y.1.2.2.2.1.2.1), (y.1.2.2.2.1.2.2.1, y.1.2.2.2.1.2.2.2.1), (y.1.2.2.2.1.2.2.2.2.1, y.1.2.2.2.1.2.2.2.2.2.1), (y.1.2.2.2.1.2.2.2.2.2.2.1, y.1.2.2.2.1.2.2.2.2.2.2.2.1), (y.1.2.2.2.1.2.2.2.2.2.2.2.2.1, y.1.2.2.2.1.2.2.2.2.2.2.2.2.2.1), (y.1.2.2.2.1.2.2.2.2.2.2.2.2.2.2.1, y.1.2.2.2.1.2.2.2.2.2.2.2.2.2.2.2.1)].getD (Int.toNat y.1.2.2.2.2.1) ((EK.int IntKind.i64).pair (EK.int IntKind.i64)).dflt).1, ([(y.1.2.2.2.1.1, y.1.2.2.2.1.2.1), (y.1.2.2.2.1.2.2.1, y.1.2.2.2.1.2.2.2.1), (y.1.2.2.2.1.2.2.2.2.1, y.1.2.2.2.1.2.2.2.2.2.1), (y.1.2.2.2.1.2.2.2.2.2.2.1, y.1.2.2.2.1.2.2.2.2.2.2.2.1), (y.1.2.2.2.1.2.2.2.2.2.2.2.2.1, y.1.2.2.2.1.2.2.2.2.2.2.2.2.2.1), (y.1.2.2.2.1.2.2.2.2.2.2.2.2.2.2.1, y.1.2.2.2.1.2.2.2.2.2.2.2.2.2.2.2.1)].getD (Int.toNat y.1.2.2.2.2.1) ((EK.int IntKind.i64).pair (EK.int IntKind.i64)).dflt).2].length = 2) then (Option.bind (withinG (IntKind.i64.wrap (y.1.2.1 + [([(y.1.2.2.2.1.1, y.1.2.2.2.1.2.1), (y.1.2.2.2.1.2.2.1, y.1.2.2.2.1.2.2.2.1), (y.1.2.2.2.1.2.2.2.2.1, y.1.2.2.2.1.2.2.2.2.2.1), (y.1.2.2.2.1.2.2.2.2.2.2.1, y.1.2.2.2.1.2.2.2.2.2.2.2.1), (y.1.2.2.2.1.2.2.2.2.2.2.2.2.1, y.1.2.2.2.1.2.2.2.2.2.2.2.2.2.1), (y.1.2.2.2.1.2.2.2.2.2.2.2.2.2.2.1, y.1.2.2.2.1.2.2.2.2.2.2.2.2.2.2.2.1)].getD (Int.toNat y.1.2.2.2.2.1) ((EK.int IntKind.i64).pair (EK.int IntKind.i64)).dflt).1, ([(y.1.2.2.2.1.1, y.1.2.2.2.1.2.1), (y.1.2.2.2.1.2.2.1, y.1.2.2.2.1.2.2.2.1), (y.1.2.2.2.1.2.2.2.2.1, y.1.2.2.2.1.2.2.2.2.2.1), (y.1.2.2.2.1.2.2.2.2.2.2.1, y.1.2.2.2.1.2.2.2.2.2.2.2.1), (y.1.2.2.2.1.2.2.2.2.2.2.2.2.1, y.1.2.2.2.1.2.2.2.2.2.2.2.2.2.1), (y.1.2.2.2.1.2.2.2.2.2.2.2.2.2.2.1, y.1.2.2.2.1.2.2.2.2.2.2.2.2.2.2.2.1)].getD (Int.toNat y.1.2.2.2.2.1) ((EK.int IntKind.i64).pair (EK.int IntKind.i64)).dflt).2].getD (Int.toNat 1) (0 : Int)), 0, IntKind.i64.wrap (y.2.2.1.1 - 1))) fun (r2 : Bool) => (bif r2 then (bif inB 0 [([(y.1.2.2.2.1.1, y.1.2.2.2.1.2.1), (y.1.2.2.2.1.2.2.1, y.1.2.2.2.1.2.2.2.1), (y.1.2.2.2.1.2.2.2.2.1, y.1.2.2.2.1.2.2.2.2.2.1), (y.1.2.2.2.1.2.2.2.2.2.2.1, y.1.2.2.2.1.2.2.2.2.2.2.2.1), (y.1.2.2.2.1.2.2.2.2.2.2.2.2.1, y.1.2.2.2.1.2.2.2.2.2.2.2.2.2.1), (y.1.2.2.2.1.2.2.2.2.2.2.2.2.2.2.1, y.1.2.2.2.1.2.2.2.2.2.2.2.2.2.2.2.1)].getD (Int.toNat y.1.2.2.2.2.1) ((EK.int IntKind.i64).pair (EK.int IntKind.i64)).dflt).1, ([(y.1.2.2.2.1.1, y.1.2.2.2.1.2.1), (y.1.2.2.2.1.2.2.1, y.1.2.2.2.1.2.2.2.1), (y.1.2.2.2.1.2.2.2.2.1, y.1.2.2.2.1.2.2.2.2.2.1), (y.1.2.2.2.1.2.2.2.2.2.2.1, y.1.2.2.2.1.2.2.2.2.2.2.2.1), (y.1.2.2.2.1.2.2.2.2.2.2.2.2.1, y.1.2.2.2.1.2.2.2.2.2.2.2.2.2.1), (y.1.2.2.2.1.2.2.2.2.2.2.2.2.2.2.1, y.1.2.2.2.1.2.2.2.2.2.2.2.2.2.2.2.1)].getD (Int.toNat y.1.2.2.2.2.1) ((EK.int IntKind.i64).pair (EK.int IntKind.i64)).dflt).2].length && decide ([([(y.1.2.2.2.1.1, y.1.2.2.2.1.2.1), (y.1.2.2.2.1.2.2.1, y.1.2.2.2.1.2.2.2.1), (y.1.2.2.2.1.2.2.2.2.1, y.1.2.2.2.1.2.2.2.2.2.1), (y.1.2.2.2.1.2.2.2.2.2.2.1, y.1.2.2.2.1.2.2.2.2.2.2.2.1), (y.1.2.2.2.1.2.2.2.2.2.2.2.2.1, y.1.2.2.2.1.2.2.2.2.2.2.2.2.2.1), (y.1.2.2.2.1.2.2.2.2.2.2.2.2.2.2.1, y.1.2.2.2.1.2.2.2.2.2.2.2.2.2.2.2.1)].getD (Int.toNat y.1.2.2.2.2.1) ((EK.int IntKind.i64).pair (EK.int IntKind.i64)).dflt).1, ([(y.1.2.2.2.1.1, y.1.2.2.2.1.2.1), (y.1.2.2.2.1.2.2.1, y.1.2.2.2.1.2.2.2.1), (y.1.2.2.2.1.2.2.2.2.1, y.1.2.2.2.1.2.2.2.2.2.1), (y.1.2.2.2.1.2.2.2.2.2.2.1, y.1.2.2.2.1.2.2.2.2.2.2.2.1), (y.1.2.2.2.1.2.2.2.2.2.2.2.2.1, y.1.2.2.2.1.2.2.2.2.2.2.2.2.2.1), (y.1.2.2.2.1.2.2.2.2.2.2.2.2.2.2.1, y.1.2.2.2.1.2.2.2.2.2.2.2.2.2.2.2.1)].getD (Int.toNat y.1.2.2.2.2.1) ((EK.int IntKind.i64).pair (EK.int IntKind.i64)).dflt).2].length = 2) then (bif inB 1 [([(y.1.2.2.2.1.1, y.1.2.2.2.1.2.1), (y.1.2.2.2.1.2.2.1, y.1.2.2.2.1.2.2.2.1), (y.1.2.2.2.1.2.2.2.2.1, y.1.2.2.2.1.2.2.2.2.2.1), (y.1.2.2.2.1.2.2.2.2.2.2.1, y.1.2.2.2.1.2.2.2.2.2.2.2.1), (y.1.2.2.2.1.2.2.2.2.2.2.2.2.1, y.1.2.2.2.1.2.2.2.2.2.2.2.2.2.1), (y.1.2.2.2.1.2.2.2.2.2.2.2.2.2.2.1, y.1.2.2.2.1.2.2.2.2.2.2.2.2.2.2.2.1)].getD (Int.toNat y.1.2.2.2.2.1) ((EK.int IntKind.i64).pair (EK.int IntKind.i64)).dflt).1, ([(y.1.2.2.2.1.1, y.1.2.2.2.1.2.1), (y.1.2.2.2.1.2.2.1, y.1.2.2.2.1.2.2.2.1), (y.1.2.2.2.1.2.2.2.2.1, y.1.2.2.2.1.2.2.2.2.2.1), (y.1.2.2.2.1.2.2.2.2.2.2.1, y.1.2.2.2.1.2.2.2.2.2.2.2.1), (y.1.2.2.2.1.2.2.2.2.2.2.2.2.1, y.1.2.2.2.1.2.2.2.2.2.2.2.2.2.1), (y.1.2.2.2.1.2.2.2.2.2.2.2.2.2.2.1, y.1.2.2.2.1.2.2.2.2.2.2.2.2.2.2.2.1)].getD (Int.toNat y.1.2.2.2.2.1) ((EK.int IntKind.i64).pair (EK.int IntKind.i64)).dflt).2].length && decide ([([(y.1.2.2.2.1.1, y.1.2.2.2.1.2.1), (y.1.2.2.2.1.2.2.1, y.1.2.2.2.1.2.2.2.1), (y.1.2.2.2.1.2.2.2.2.1, y.1.2.2.2.1.2.2.2.2.2.1), (y.1.2.2.2.1.2.2.2.2.2.2.1, y.1.2.2.2.1.2.2.2.2.2.2.2.1), (y.1.2.2.2.1.2.2.2.2.2.2.2.2.1, y.1.2.2.2.1.2.2.2.2.2.2.2.2.2.1), (y.1.2.2.2.1.2.2.2.2.2.2.2.2.2.2.1, y.1.2.2.2.1.2.2.2.2.2.2.2.2.2.2.2.1)].getD (Int.toNat y.1.2.2.2.2.1) ((EK.int IntKind.i64).pair (EK.int IntKind.i64)).dflt).1, ([(y.1.2.2.2.1.1, y.1.2.2.2.1.2.1), (y.1.2.2.2.1.2.2.1, y.1.2.2.2.1.2.2.2.1), (y.1.2.2.2.1.2.2.2.2.1, y.1.2.2.2.1.2.2.2.2.2.1), (y.1.2.2.2.1.2.2.2.2.2.2.1, y.1.2.2.2.1.2.2.2.2.2.2.2.1), (y.1.2.2.2.1.2.2.2.2.2.2.2.2.1, y.1.2.2.2.1.2.2.2.2.2.2.2.2.2.1), (y.1.2.2.2.1.2.2.2.2.2.2.2.2.2.2.1, y.1.2.2.2.1.2.2.2.2.2.2.2.2.2.2.2.1)].getD (Int.toNat y.1.2.2.2.2.1) ((EK.int IntKind.i64).pair (EK.int IntKind.i64)).dflt).2].length = 2) then (bif decide (y.1.2.2.1 + 1 ≤ maxA) then (some (Sum.inl (((y.1.1, (y.1.2.1, ((sub y.2.2.2.1 0 y.1.2.2.1 ++ [IntKind.i64.wrap (IntKind.i64.wrap (y.1.1 + [([(y.1.2.2.2.1.1, y.1.2.2.2.1.2.1), (y.1.2.2.2.1.2.2.1, y.1.2.2.2.1.2.2.2.1), (y.1.2.2.2.1.2.2.2.2.1, y.1.2.2.2.1.2.2.2.2.2.1), (y.1.2.2.2.1.2.2.2.2.2.2.1, y.1.2.2.2.1.2.2.2.2.2.2.2.1), (y.1.2.2.2.1.2.2.2.2.2.2.2.2.1, y.1.2.2.2.1.2.2.2.2.2.2.2.2.2.1), (y.1.2.2.2.1.2.2.2.2.2.2.2.2.2.2.1, y.1.2.2.2.1.2.2.2.2.2.2.2.2.2.2.2.1)].getD (Int.toNat y.1.2.2.2.2.1) ((EK.int IntKind.i64).pair (EK.int IntKind.i64)).dflt).1, ([(y.1.2.2.2.1.1, y.1.2.2.2.1.2.1), (y.1.2.2.2.1.2.2.1, y.1.2.2.2.1.2.2.2.1), (y.1.2.2.2.1.2.2.2.2.1, y.1.2.2.2.1.2.2.2.2.2.1), (y.1.2.2.2.1.2.2.2.2.2.2.1, y.1.2.2.2.1.2.2.2.2.2.2.2.1), (y.1.2.2.2.1.2.2.2.2.2.2.2.2.1, y.1.2.2.2.1.2.2.2.2.2.2.2.2.2.1), (y.1.2.2.2.1.2.2.2.2.2.2.2.2.2.2.1, y.1.2.2.2.1.2.2.2.2.2.2.2.2.2.2.2.1)].getD (Int.toNat y.1.2.2.2.2.1) ((EK.int IntKind.i64).pair (EK.int IntKind.i64)).dflt).2].getD (Int.toNat 0) (0 : Int)) + IntKind.i64.wrap (y.2.2.1.1 * IntKind.i64.wrap (y.1.2.1 + [([(y.1.2.2.2.1.1, y.1.2.2.2.1.2.1), (y.1.2.2.2.1.2.2.1, y.1.2.2.2.1.2.2.2.1), (y.1.2.2.2.1.2.2.2.2.1, y.1.2.2.2.1.2.2.2.2.2.1), (y.1.2.2.2.1.2.2.2.2.2.2.1, y.1.2.2.2.1.2.2.2.2.2.2.2.1), (y.1.2.2.2.1.2.2.2.2.2.2.2.2.1, y.1.2.2.2.1.2.2.2.2.2.2.2.2.2.1), (y.1.2.2.2.1.2.2.2.2.2.2.2.2.2.2.1, y.1.2.2.2.1.2.2.2.2.2.2.2.2.2.2.2.1)].getD (Int.toNat y.1.2.2.2.2.1) ((EK.int IntKind.i64).pair (EK.int IntKind.i64)).dflt).1, ([(y.1.2.2.2.1.1, y.1.2.2.2.1.2.1), (y.1.2.2.2.1.2.2.1, y.1.2.2.2.1.2.2.2.1), (y.1.2.2.2.1.2.2.2.2.1, y.1.2.2.2.1.2.2.2.2.2.1), (y.1.2.2.2.1.2.2.2.2.2.2.1, y.1.2.2.2.1.2.2.2.2.2.2.2.1), (y.1.2.2.2.1.2.2.2.2.2.2.2.2.1, y.1.2.2.2.1.2.2.2.2.2.2.2.2.2.1), (y.1.2.2.2.1.2.2.2.2.2.2.2.2.2.2.1, y.1.2.2.2.1.2.2.2.2.2.2.2.2.2.2.2.1)].getD (Int.toNat y.1.2.2.2.2.1) ((EK.int IntKind.i64).pair (EK.int IntKind.i64)).dflt).2].getD (Int.toNat 1) (0 : Int))))]).length, ((y.1.2.2.2.1.1, (y.1.2.2.2.1.2.1, (y.1.2.2.2.1.2.2.1, (y.1.2.2.2.1.2.2.2.1, (y.1.2.2.2.1.2.2.2.2.1, (y.1.2.2.2.1.2.2.2.2.2.1, (y.1.2.2.2.1.2.2.2.2.2.2.1, (y.1.2.2.2.1.2.2.2.2.2.2.2.1, (y.1.2.2.2.1.2.2.2.2.2.2.2.2.1, (y.1.2.2.2.1.2.2.2.2.2.2.2.2.2.1, (y.1.2.2.2.1.2.2.2.2.2.2.2.2.2.2.1, (y.1.2.2.2.1.2.2.2.2.2.2.2.2.2.2.2.1, ())))))))))))), (IntKind.i64.wrap (y.1.2.2.2.2.1 + 1), ()))))), (y.2.1, ((y.2.2.1.1, (y.2.2.1.2.1, ())), (sub y.2.2.2.1 0 y.1.2.2.1 ++ [IntKind.i64.wrap (IntKind.i64.wrap (y.1.1 + [([(y.1.2.2.2.1.1, y.1.2.2.2.1.2.1), (y.1.2.2.2.1.2.2.1, y.1.2.2.2.1.2.2.2.1), (y.1.2.2.2.1.2.2.2.2.1, y.1.2.2.2.1.2.2.2.2.2.1), (y.1.2.2.2.1.2.2.2.2.2.2.1, y.1.2.2.2.1.2.2.2.2.2.2.2.1), (y.1.2.2.2.1.2.2.2.2.2.2.2.2.1, y.1.2.2.2.1.2.2.2.2.2.2.2.2.2.1), (y.1.2.2.2.1.2.2.2.2.2.2.2.2.2.2.1, y.1.2.2.2.1.2.2.2.2.2.2.2.2.2.2.2.1)].getD (Int.toNat y.1.2.2.2.2.1) ((EK.int IntKind.i64).pair (EK.int IntKind.i64)).dflt).1, ([(y.1.2.2.2.1.1, y.1.2.2.2.1.2.1), (y.1.2.2.2.1.2.2.1, y.1.2.2.2.1.2.2.2.1), (y.1.2.2.2.1.2.2.2.2.1, y.1.2.2.2.1.2.2.2.2.2.1), (y.1.2.2.2.1.2.2.2.2.2.2.1, y.1.2.2.2.1.2.2.2.2.2.2.2.1), (y.1.2.2.2.1.2.2.2.2.2.2.2.2.1, y.1.2.2.2.1.2.2.2.2.2.2.2.2.2.1), (y.1.2.2.2.1.2.2.2.2.2.2.2.2.2.2.1, y.1.2.2.2.1.2.2.2.2.2.2.2.2.2.2.2.1)].getD (Int.toNat y.1.2.2.2.2.1) ((EK.int IntKind.i64).pair (EK.int IntKind.i64)).dflt).2].getD (Int.toNat 0) (0 : Int)) + IntKind.i64.wrap (y.2.2.1.1 * IntKind.i64.wrap (y.1.2.1 + [([(y.1.2.2.2.1.1, y.1.2.2.2.1.2.1), (y.1.2.2.2.1.2.2.1, y.1.2.2.2.1.2.2.2.1), (y.1.2.2.2.1.2.2.2.2.1, y.1.2.2.2.1.2.2.2.2.2.1), (y.1.2.2.2.1.2.2.2.2.2.2.1, y.1.2.2.2.1.2.2.2.2.2.2.2.1), (y.1.2.2.2.1.2.2.2.2.2.2.2.2.1, y.1.2.2.2.1.2.2.2.2.2.2.2.2.2.1), (y.1.2.2.2.1.2.2.2.2.2.2.2.2.2.2.1, y.1.2.2.2.1.2.2.2.2.2.2.2.2.2.2.2.1)].getD (Int.toNat y.1.2.2.2.2.1) ((EK.int IntKind.i64).pair (EK.int IntKind.i64)).dflt).1, ([(y.1.2.2.2.1.1, y.1.2.2.2.1.2.1), (y.1.2.2.2.1.2.2.1, y.1.2.2.2.1.2.2.2.1), (y.1.2.2.2.1.2.2.2.2.1, y.1.2.2.2.1.2.2.2.2.2.1), (y.1.2.2.2.1.2.2.2.2.2.2.1, y.1.2.2.2.1.2.2.2.2.2.2.2.1), (y.1.2.2.2.1.2.2.2.2.2.2.2.2.1, y.1.2.2.2.1.2.2.2.2.2.2.2.2.2.1), (y.1.2.2.2.1.2.2.2.2.2.2.2.2.2.2.1, y.1.2.2.2.1.2.2.2.2.2.2.2.2.2.2.2.1)].getD (Int.toNat y.1.2.2.2.2.1) ((EK.int IntKind.i64).pair (EK.int IntKind.i64)).dflt).2].getD (Int.toNat 1) (0 : Int))))], ()))))))) else (none)) else (none)) else (none)) else (some (Sum.inl (((y.1.1, (y.1.2.1, (y.1.2.2.1, ((y.1.2.2.2.1.1, (y.1.2.2.2.1.2.1, (y.1.2.2.2.1.2.2.1, (y.1.2.2.2.1.2.2.2.1, (y.1.2.2.2.1.2.2.2.2.1, (y.1.2.2.2.1.2.2.2.2.2.1, (y.1.2.2.2.1.2.2.2.2.2.2.1, (y.1.2.2.2.1.2.2.2.2.2.2.2.1, (y.1.2.2.2.1.2.2.2.2.2.2.2.2.1, (y.1.2.2.2.1.2.2.2.2.2.2.2.2.2.1, (y.1.2.2.2.1.2.2.2.2.2.2.2.2.2.2.1, (y.1.2.2.2.1.2.2.2.2.2.2.2.2.2.2.2.1, ())))))))))))), (IntKind.i64.wrap (y.1.2.2.2.2.1 + 1), ()))))), (y.2.1, ((y.2.2.1.1, (y.2.2.1.2.1, ())), (y.2.2.2.1, ()))))))))) else (none)) else (some (Sum.inl (((y.1.1, (y.1.2.1, (y.1.2.2.1, ((y.1.2.2.2.1.1, (y.1.2.2.2.1.2.1, (y.1.2.2.2.1.2.2.1, (y.1.2.2.2.1.2.2.2.1, (y.1.2.2.2.1.2.2.2.2.1, (y.1.2.2.2.1.2.2.2.2.2.1, (y.1.2.2.2.1.2.2.2.2.2.2.1, (y.1.2.2.2.1.2.2.2.2.2.2.2.1, (y.1.2.2.2.1.2.2.2.2.2.2.2.2.1, (y.1.2.2.2.1.2.2.2.2.2.2.2.2.2.1, (y.1.2.2.2.1.2.2.2.2.2.2.2.2.2.2.1, (y.1.2.2.2.1.2.2.2.2.2.2.2.2.2.2.2.1, ())))))))))))), (IntKind.i64.wrap (y.1.2.2.2.2.1 + 1), ()))))), (y.2.1, ((y.2.2.1.1, (y.2.2.1.2.1, ())), (y.2.2.2.1, ()))))))))) else (none)) else (none)) else (some (Sum.inr (((y.1.2.2.1, ()), (y.2.1, (y.2.2.2.1, ()))))))
noncomputable def ss_bes : List (Nat × FSpec) := [(84, withinS)]
theorem ssOk_bes : FTolds Try.prog ss_bes := ⟨s_within, trivial⟩
noncomputable def Γ_bes : Ctx := ctxOf Try.prog tys fs ss_bes loops_bes
noncomputable def d_bes (sd : Int) (sv : LS) (x y : Int) : Option ((List Int)) := Option.bind (iter B_bes_1 bigN (((x, (y, (0, ((1, (0, (-1, (0, (0, (1, (0, (-1, (1, (-1, (-1, (1, ())))))))))))), (0, ()))))), (sv, ((sd, (List.length sv, ())), ([], ())))))) fun (r0 : ((Nat × Unit) × ((List (Fl .f32)) × ((List Int) × Unit)))) => (some (sub r0.2.2.1 0 r0.1.1))
theorem t_bes (sd : Int) (sv : LS) (x y : Int) : (fnT Γ_bes 10 116 [FlD, I64, I64] [L64] ((sd, sv), x, y)).den = d_bes sd sv x y := by kernel_rfl
abbrev dTup : Int × Int × Int × Int × Int × Int × Int × Int × Int × Int × Int × Int × Unit := (1, (0, (-1, (0, (0, (1, (0, (-1, (1, (-1, (-1, (1, ()))))))))))))
abbrev bsS (sd x y : Int) (sv : LS) (k : Nat) : S_bes_1 := ((x, (y, ((bkL sd x y k).length, (dTup, ((k : Int), ()))))), (sv, ((sd, (sv.length, ())), (bkL sd x y k, ()))))
theorem bes_one {sd x y u v : Int} {sv : LS} {k : Nat} (h1 : 3 ≤ sd) (h2 : sd ≤ 16) (x0 : 0 ≤ x) (x1 : x < sd) (y0 : 0 ≤ y) (y1 : y < sd) (hk : k < 6) (hd : dirs[k]? = some (u, v)) (he : ([((1 : Int), (0 : Int)), (-1, 0), (0, 1), (0, -1), (1, -1), (-1, 1)] : List (Int × Int)).getD k (0, 0) = (u, v)) (u0 : -1 ≤ u) (u1 : u ≤ 1) (v0 : -1 ≤ v) (v1 : v ≤ 1) : B_bes_1 (bsS sd x y sv k) = some (.inl (bsS sd x y sv (k + 1))) := by
  have hdf : ((EK.int IntKind.i64).pair (EK.int IntKind.i64)).dflt = ((0 : Int), (0 : Int)) := rfl
  have e1 : decide ((k : Int) < 6) = true := decide_eq_true (by omega)
  have hn1 : IntKind.i64.wrap (sd - 1) = sd - 1 := wrap64 (by omega) (by omega)
  have nb : -17000 ≤ sd * (y + v) ∧ sd * (y + v) ≤ 17000 := nb_of (y + v) (by omega) (by omega) h1 h2
  have bl := bk_len sd x y k
  have ln : ([((1 : Int), (0 : Int)), (-1, 0), (0, 1), (0, -1), (1, -1), (-1, 1)] : List (Int × Int)).length = 6 := rfl
  unfold bsS B_bes_1
  simp only [e1, cond_true, Int.toNat_natCast, hdf, he, ln, inB_of hk, decide_true, Bool.and_self, show inB 0 2 = true from rfl, show inB 1 2 = true from rfl, show [u, v].length = 2 from rfl, show [u, v].getD (Int.toNat 0) (0 : Int) = u from rfl, show [u, v].getD (Int.toNat 1) (0 : Int) = v from rfl, wrap64 (n := x + u) (by omega) (by omega), wrap64 (n := y + v) (by omega) (by omega), wrap64 (n := sd * (y + v)) (by omega) (by omega), wrap64 (n := x + u + sd * (y + v)) (by omega) (by omega), withinG, Option.bind_some, hn1, maxA_one (show (bkL sd x y k).length < 2 ^ 30 by omega), inc64 hk (show 6 < 2 ^ 62 by decide), sub_all]
  cases hb : insB sd (x + u) (y + v) with
  | true =>
    rw [bk_yes h1 hd hb]
    unfold insB at hb
    rw [Bool.and_eq_true] at hb
    rw [hb.1, hb.2]
    rfl
  | false =>
    rw [bk_no hd hb]
    unfold insB at hb
    cases c1 : (decide (0 ≤ x + u) && decide (x + u ≤ sd - 1)) with
    | false => rfl
    | true =>
      rw [c1, Bool.true_and] at hb
      rw [hb]
      rfl
theorem p_bes (sd : Int) (sv : LS) (x y : Int) (r : (List Int)) (h : besG ((sd, sv), x, y) = some r) : d_bes sd sv x y = some r := by
  obtain ⟨⟨⟨h1, h2⟩, ⟨x0, x1⟩, y0, y1⟩, rfl⟩ := if_some (show (if (3 ≤ sd ∧ sd ≤ 16) ∧ (0 ≤ x ∧ x < sd) ∧ 0 ≤ y ∧ y < sd then some (besL sd x y) else none) = some r from h)
  unfold d_bes
  have key := iter_for (B := B_bes_1) (fun k => bsS sd x y sv k) 0 6 (((bkL sd x y 6).length, ()), (sv, (bkL sd x y 6, ()))) (Nat.zero_le _) (by decide) (fun k _ hk => by
    have hc : k = 0 ∨ k = 1 ∨ k = 2 ∨ k = 3 ∨ k = 4 ∨ k = 5 := by omega
    rcases hc with rfl | rfl | rfl | rfl | rfl | rfl
    · exact bes_one h1 h2 x0 x1 y0 y1 hk rfl rfl (by decide) (by decide) (by decide) (by decide)
    · exact bes_one h1 h2 x0 x1 y0 y1 hk rfl rfl (by decide) (by decide) (by decide) (by decide)
    · exact bes_one h1 h2 x0 x1 y0 y1 hk rfl rfl (by decide) (by decide) (by decide) (by decide)
    · exact bes_one h1 h2 x0 x1 y0 y1 hk rfl rfl (by decide) (by decide) (by decide) (by decide)
    · exact bes_one h1 h2 x0 x1 y0 y1 hk rfl rfl (by decide) (by decide) (by decide) (by decide)
    · exact bes_one h1 h2 x0 x1 y0 y1 hk rfl rfl (by decide) (by decide) (by decide) (by decide)) rfl
  refine (congrArg (fun z => Option.bind z _) (show iter B_bes_1 bigN _ = _ from key)).trans ?_
  simp only [Option.bind_some, sub_all]
  rfl
theorem s_bes : FTold Try.prog 116 besS := walkedF (fs := fs) (ss := ss_bes) (loop := loops_bes) tysOk mixed fnsOk ssOk_bes 10 116 [FlD, I64, I64] [L64] rfl _ fun ((sd, sv), x, y) r h => (t_bes sd sv x y).trans (p_bes sd sv x y r h)
theorem any_bes (sv : LS) (n x y : Int) : rdyB sv (nearL n x y) = (besL n x y).any fun k => fge (sv.getD k.toNat dN) (Fl.of .f32 1065353216) := by
  unfold rdyB besL
  rw [List.any_filter]
theorem bes_in {n x y : Int} (h1 : 3 ≤ n) {k : Nat} (hk : k < (besL n x y).length) : 0 ≤ (besL n x y).getD k 0 ∧ (besL n x y).getD k 0 < n * n := by
  rw [List.getD_eq_getElem?_getD, List.getElem?_eq_getElem hk]
  have hm : (besL n x y)[k] ∈ besL n x y := List.getElem_mem _
  generalize (besL n x y)[k] = z at hm
  unfold besL at hm
  rw [List.mem_filter, decide_eq_true_iff] at hm
  obtain ⟨hz, h0⟩ := hm
  unfold nearL at hz
  rw [List.mem_map] at hz
  obtain ⟨d, _, rfl⟩ := hz
  exact ⟨h0, (nearV_in h1 d h0).1⟩
def rdyIG (x : FlT × Int) : Option Bool := rdyPG x
def rdyIS : FSpec := ⟨[FlD, I64], [.bool], rdyIG⟩
theorem getD_at {ks : LI} {j : Nat} (hj : j < ks.length) : ks.getD j 0 = ks[j] := by rw [List.getD_eq_getElem?_getD, List.getElem?_eq_getElem hj]; rfl
def L_rdyI_1 : LSpec := ⟨[0, 1, 7, 8], ⟨Shs.at 19 [(0, (.slc 1072104)), (1, (.fn (Fn.func 173) .nil (.cons (.ptr 1027 0 0) .nil))), (7, (.int IntKind.i64)), (8, (.int IntKind.i64))], [(2, (.arr false (EK.flt FloatKind.f32))), (1027, (.vals true (.cons (.int IntKind.i64) (.cons (.slc 2) .nil)))), (1072104, (.arr true (EK.int IntKind.i64)))]⟩, [⟨.ret, [4], ⟨Shs.at 19 [(4, (.int IntKind.i64))], [(2, (.arr false (EK.flt FloatKind.f32))), (1027, (.vals true (.cons (.int IntKind.i64) (.cons (.slc 2) .nil)))), (1072104, (.arr true (EK.int IntKind.i64)))]⟩⟩, ⟨.ext 0, [], ⟨Shs.at 19 [], [(2, (.arr false (EK.flt FloatKind.f32))), (1027, (.vals true (.cons (.int IntKind.i64) (.cons (.slc 2) .nil)))), (1072104, (.arr true (EK.int IntKind.i64)))]⟩⟩], fun _ => bigN⟩
def loops_rdyI (f k n : Nat) : Option LSpec := bif (Nat.beq f 182 && Nat.beq k 2 && Nat.beq n 1073160) then some L_rdyI_1 else none
abbrev S_rdyI_1 : Type := ((Nat × ((Unit × Unit) × (Int × (Int × Unit)))) × ((List (Fl .f32)) × ((Int × (Nat × Unit)) × ((List Int) × Unit))))
abbrev R_rdyI_1 : Type := (((Int × Unit) × ((List (Fl .f32)) × ((Int × (Nat × Unit)) × ((List Int) × Unit)))) ⊕ (Unit × ((List (Fl .f32)) × ((Int × (Nat × Unit)) × ((List Int) × Unit)))))
noncomputable def B_rdyI_1 (y : S_rdyI_1) : Option (S_rdyI_1 ⊕ R_rdyI_1) := bif decide (y.1.2.2.2.1 < y.1.2.2.1) then (bif inB y.1.2.2.2.1 y.1.1 then (bif inB (List.getD y.2.2.2.1 (0 + Int.toNat y.1.2.2.2.1) (0 : Int)) y.2.2.1.2.1 then (bif fge (List.getD y.2.1 (0 + Int.toNat (List.getD y.2.2.2.1 (0 + Int.toNat y.1.2.2.2.1) (0 : Int))) dN) (Fl.of .f32 1065353216) then (some (Sum.inr (Sum.inl (((y.1.2.2.2.1, ()), (y.2.1, ((y.2.2.1.1, (y.2.2.1.2.1, ())), (y.2.2.2.1, ())))))))) else (some (Sum.inl (((y.1.1, (((), ()), (y.1.2.2.1, (IntKind.i64.wrap (y.1.2.2.2.1 + 1), ())))), (y.2.1, ((y.2.2.1.1, (y.2.2.1.2.1, ())), (y.2.2.2.1, ())))))))) else (none)) else (none)) else (some (Sum.inr (Sum.inr (((), (y.2.1, ((y.2.2.1.1, (y.2.2.1.2.1, ())), (y.2.2.2.1, ()))))))))
noncomputable def ss_rdyI : List (Nat × FSpec) := [(116, besS)]
theorem ssOk_rdyI : FTolds Try.prog ss_rdyI := ⟨s_bes, trivial⟩
noncomputable def Γ_rdyI : Ctx := ctxOf Try.prog tys fs ss_rdyI loops_rdyI
noncomputable def d_rdyI (sd : Int) (sv : LS) (i : Int) : Option (Bool) := bif inB i (List.length sv) then (bif fge (List.getD sv (0 + i.toNat) dN) (Fl.of .f32 1065353216) then (some (true)) else (bif sd != 0 then (bif sd != 0 then (Option.bind (besG ((sd, sub sv 0 (List.length sv)), i.tmod sd, IntKind.i64.wrap (i.tdiv sd))) fun (r0 : (List Int)) => (Option.bind (iter B_rdyI_1 bigN (((List.length r0, (((), ()), (((List.length r0 : Nat) : Int), (0, ())))), (sv, ((sd, (List.length sv, ())), (r0, ())))))) fun (r1 : (((Int × Unit) × ((List (Fl .f32)) × ((Int × (Nat × Unit)) × ((List Int) × Unit)))) ⊕ (Unit × ((List (Fl .f32)) × ((Int × (Nat × Unit)) × ((List Int) × Unit)))))) => (match r1 with | .inl x2 => (some (decide (x2.1.1 ≥ 0))) | .inr x2 => (some (false))))) else (none)) else (none))) else (none)
theorem t_rdyI (sd : Int) (sv : LS) (i : Int) : (fnT Γ_rdyI 10 113 [FlD, I64] [.bool] ((sd, sv), i)).den = d_rdyI sd sv i := by kernel_rfl
theorem xy_of {n i : Int} (h1 : 3 ≤ n) (h0 : 0 ≤ i) (hi : i < n * n) : (0 ≤ i % n ∧ i % n < n) ∧ 0 ≤ i / n ∧ i / n < n :=
  ⟨⟨Int.emod_nonneg _ (by omega), Int.emod_lt_of_pos _ (by omega)⟩, Int.ediv_nonneg h0 (by omega), Int.ediv_lt_of_lt_mul (by omega) hi⟩
theorem p_rdyI (sd : Int) (sv : LS) (i : Int) (r : Bool) (h : rdyIG ((sd, sv), i) = some r) : d_rdyI sd sv i = some r := by
  obtain ⟨⟨⟨⟨h1, h2⟩, hl⟩, h3, h4⟩, rfl⟩ := if_some (show (if szK (sd, sv) ∧ 0 ≤ i ∧ i < (sv.length : Int) then some (rdyF sd sv i.toNat) else none) = some r from h)
  have h1 : 3 ≤ sd := h1
  have h2 : sd ≤ 16 := h2
  have hl : (sv.length : Int) = sd * sd := hl
  have sq := sq_b h1 h2
  obtain ⟨xx, yy⟩ := xy_of h1 h3 (show i < sd * sd by omega)
  have k1 : besG ((sd, sv), i % sd, i / sd) = some (besL sd (i % sd) (i / sd)) := if_pos ⟨⟨h1, h2⟩, xx, yy⟩
  have e0 : (sd != 0) = true := by simp; omega
  unfold d_rdyI rdyF
  rw [Int.toNat_of_nonneg h3, any_bes]
  simp only [inB_int h3 h4, cond_true, Nat.zero_add]
  cases hg : fge (sv.getD i.toNat dN) (Fl.of .f32 1065353216) with
  | true => rfl
  | false =>
    simp only [cond_false, Bool.false_or, e0, cond_true, sub_all, Int.tmod_eq_emod_of_nonneg h3, Int.tdiv_eq_ediv_of_nonneg h3, wrap64 (n := i / sd) (by omega) (by omega), k1, Option.bind_some]
    have hb : (besL sd (i % sd) (i / sd)).length < 2 ^ 62 := by
      have : (besL sd (i % sd) (i / sd)).length ≤ 6 := bk_len sd (i % sd) (i / sd) 6
      omega
    have hin := fun k (hk : k < (besL sd (i % sd) (i / sd)).length) => bes_in (x := i % sd) (y := i / sd) h1 hk
    generalize besL sd (i % sd) (i / sd) = ks at *
    have key := iter_find' (B := B_rdyI_1) (fun k => ((ks.length, (((), ()), ((ks.length : Int), ((k : Int), ())))), (sv, ((sd, (sv.length, ())), (ks, ()))))) 0 ks.length (fun k => if (!fge (sv.getD (ks.getD k 0).toNat dN) (Fl.of .f32 1065353216)) = true then none else some (.inl (((k : Int), ()), (sv, ((sd, (sv.length, ())), (ks, ())))))) (.inr ((), (sv, ((sd, (sv.length, ())), (ks, ()))))) (Nat.zero_le _) hb (fun k _ hk => by
      have hi := hin k hk
      unfold B_rdyI_1
      simp only [ltT hk, inB_of hk, cond_true, Int.toNat_natCast, Nat.zero_add, inc64 hk hb, inB_int hi.1 (show ks.getD k 0 < sv.length by omega)]
      cases fge (sv.getD (ks.getD k 0).toNat dN) (Fl.of .f32 1065353216) <;> rfl) (by
      unfold B_rdyI_1
      simp only [ltF, cond_false])
    refine (congrArg (fun z => Option.bind z _) (show iter B_rdyI_1 bigN _ = _ from key)).trans ?_
    cases hf : firstOf (fun k => if (!fge (sv.getD (ks.getD k 0).toNat dN) (Fl.of .f32 1065353216)) = true then none else some (.inl (((k : Int), ()), (sv, ((sd, (sv.length, ())), (ks, ())))) : R_rdyI_1)) (ks.length - 0) 0 with
    | none =>
      have : (ks.any fun k => fge (sv.getD k.toNat dN) (Fl.of .f32 1065353216)) = false := by
        rw [List.any_eq_false]
        intro z hz
        obtain ⟨j, hj, rfl⟩ := List.getElem_of_mem hz
        have h5 := none_of ((firstOf_none _ _ _).1 hf j (Nat.zero_le _) (by omega))
        rw [getD_at hj] at h5
        simpa using h5
      rw [this]; rfl
    | some z =>
      obtain ⟨j, _, hj, hs⟩ := firstOf_some _ _ _ _ hf
      have hj' : j < ks.length := by omega
      cases hq : fge (sv.getD (ks.getD j 0).toNat dN) (Fl.of .f32 1065353216) with
      | false => rw [hq] at hs; simp at hs
      | true =>
        rw [hq] at hs
        simp only [Bool.not_true, Bool.false_eq_true, if_false, Option.some.injEq] at hs
        subst hs
        have : (ks.any fun k => fge (sv.getD k.toNat dN) (Fl.of .f32 1065353216)) = true := by
          rw [List.any_eq_true]
          refine ⟨ks[j], List.getElem_mem _, ?_⟩
          rw [getD_at hj'] at hq
          exact hq
        rw [this]
        show some (decide ((j : Int) ≥ 0)) = some true
        rw [decide_eq_true (by omega)]
theorem s_rdyI : FTold Try.prog 113 rdyIS := walkedF (fs := fs) (ss := ss_rdyI) (loop := loops_rdyI) tysOk mixed fnsOk ssOk_rdyI 10 113 [FlD, I64] [.bool] rfl _ fun ((sd, sv), i) r h => (t_rdyI sd sv i).trans (p_rdyI sd sv i r h)
def accM (w : LS) (ks : LI) : Nat → Fl .f32
  | 0 => Fl.of .f32 0
  | k + 1 => fadd (accM w ks k) (w.getD (ks.getD k 0).toNat dN)
theorem accM_fold (w : LS) (ks : LI) : ∀ k, k ≤ ks.length → accM w ks k = (ks.take k).foldl (fun m z => fadd m (w.getD z.toNat dN)) (Fl.of .f32 0)
  | 0, _ => rfl
  | k + 1, hk => by
    rw [List.take_succ_eq_append_getElem (by omega), List.foldl_append, ← accM_fold w ks k (by omega)]
    show fadd (accM w ks k) (w.getD (ks.getD k 0).toNat dN) = fadd (accM w ks k) (w.getD (ks[k]).toNat dN)
    rw [getD_at (by omega : k < ks.length)]
theorem accN_fold (w : LS) (ks : LI) : ∀ k, k ≤ ks.length → accN w ks k = (ks.take k).foldl (fun m z => if decide (0 ≤ z) = true then fadd m (w.getD z.toNat dN) else m) (Fl.of .f32 0)
  | 0, _ => rfl
  | k + 1, hk => by
    rw [List.take_succ_eq_append_getElem (by omega), List.foldl_append, ← accN_fold w ks k (by omega)]
    have e : ks.getD k 0 = ks[k] := by rw [List.getD_eq_getElem?_getD, List.getElem?_eq_getElem (by omega : k < ks.length)]; rfl
    show (bif decide (0 ≤ ks.getD k 0) then fadd (accN w ks k) (w.getD (ks.getD k 0).toNat dN) else accN w ks k) = if decide (0 ≤ ks[k]) = true then fadd (accN w ks k) (w.getD (ks[k]).toNat dN) else accN w ks k
    rw [e]
    cases decide (0 ≤ ks[k]) <;> rfl
theorem acc_same (w : LS) (n x y : Int) : accN w (nearL n x y) 6 = accM w (besL n x y) (besL n x y).length := by
  rw [accM_fold _ _ _ (Nat.le_refl _), List.take_length, show (6 : Nat) = (nearL n x y).length from rfl, accN_fold _ _ _ (Nat.le_refl _), List.take_length]
  unfold besL
  rw [List.foldl_filter]
theorem lack_count (ks : LI) : ∀ k, k ≤ ks.length → lackN ks k + (((ks.take k).filter fun z => decide (0 ≤ z)).length : Int) = k
  | 0, _ => rfl
  | k + 1, hk => by
    have ih := lack_count ks k (by omega)
    have e : ks.getD k 0 = ks[k] := by rw [List.getD_eq_getElem?_getD, List.getElem?_eq_getElem (by omega : k < ks.length)]; rfl
    rw [List.take_succ_eq_append_getElem (by omega), List.filter_append, List.length_append]
    show (bif decide (0 ≤ ks.getD k 0) then lackN ks k else lackN ks k + 1) + _ = _
    rw [e]
    cases hd : decide (0 ≤ ks[k]) with
    | true =>
      have e2 : (List.filter (fun z => decide (0 ≤ z)) [ks[k]]) = [ks[k]] := by simp only [List.filter, hd]
      rw [e2, cond_true, List.length_singleton]; omega
    | false =>
      have e2 : (List.filter (fun z => decide (0 ≤ z)) [ks[k]]) = [] := by simp only [List.filter, hd]
      rw [e2, cond_false, List.length_nil]; omega
theorem lack_bes (n x y : Int) : lackN (nearL n x y) 6 = 6 - ((besL n x y).length : Int) := by
  have h := lack_count (nearL n x y) 6 (Nat.le_refl _)
  have e : (nearL n x y).take 6 = nearL n x y := rfl
  rw [e] at h
  unfold besL
  omega
end Go.Proofs.Ytjggcekliaalgaa
