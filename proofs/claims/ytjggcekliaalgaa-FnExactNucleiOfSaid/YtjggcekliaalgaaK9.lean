/- The program's SamplesOf answers as the reference's does, at all arguments. No condition. -/
import Derived.Test.YtjggcekliaalgaaK4
namespace Go.Proofs.Ytjggcekliaalgaa
open Go.Ab
theorem sub_mapR9 {α : Type} (f : Nat → α) (n : Nat) : sub (mapR f n) 0 n = mapR f n := by have := sub_all (mapR f n); rw [mapR_len] at this; exact this
theorem sub_marks9 (k : Int) (n : Nat) : sub (marks k n) 0 n = marks k n := by have := sub_all (marks k n); rw [marks_len] at this; exact this
theorem held_at9 {k : Int} {n : Nat} (h0 : 0 ≤ k) (h1 : k < 2 ^ 60) (hn : n < 2 ^ 40) : heldG (marks k n, k) = some (k + (n : Int)) := by
  have : heldG (marks k n, k) = some (k + ((marks k n).length : Int)) := if_pos ⟨by show _ = marks k (marks k n).length; rw [marks_len], by show (marks k n).length < 2 ^ 40; rw [marks_len]; omega, h0, h1⟩
  rw [this, marks_len]
theorem all_yes {l : LS} (h : ∀ i, i < l.length → fin (l.getD i dN) = true) : l.all fin = true :=
  List.all_eq_true.2 fun x hx => by
    obtain ⟨j, hj, rfl⟩ := List.getElem_of_mem hx
    have := h j hj
    simpa [List.getD_eq_getElem?_getD, hj] using this
theorem all_no {l : LS} {i : Nat} (hi : i < l.length) (h : fin (l.getD i dN) = false) : l.all fin = false := by
  rw [List.all_eq_false]
  refine ⟨l[i], List.getElem_mem _, ?_⟩
  simpa [List.getD_eq_getElem?_getD, hi] using h
theorem allf_get {l : LS} (h : l.all fin = true) {i : Nat} (hi : i < l.length) : fin (l.getD i dN) = true := by
  have := List.all_eq_true.1 h (l[i]) (List.getElem_mem _)
  simpa [List.getD_eq_getElem?_getD, hi] using this
def smT (a : LS) (n : Int) (i : Nat) : Fl .f32 := fadd (a.getD 0 dN) (fmul (fsub (a.getD (a.length - 1) dN) (a.getD 0 dN)) (fdiv (fofInt .f32 (i : Int)) (fofInt .f32 (IntKind.i64.wrap (n - 1)))))
def smV (a b : LS) (n : Int) (i : Nat) : Fl .f32 := tempF a b (smT a n i)
def smOk (a b : LS) (n : Int) : Bool := (mapR (smT a n) n.toNat).all fin && (mapR (smV a b n) n.toNat).all fin
noncomputable def samPG (x : Pr × Int) : Option (LS × LS × Bool) := if vp x.1.1 x.1.2 = true ∧ 2 ≤ x.2 ∧ x.2 ≤ 128 then some (mapR (smT x.1.1 x.2) x.2.toNat, mapR (smV x.1.1 x.1.2 x.2) x.2.toNat, smOk x.1.1 x.1.2 x.2) else none
noncomputable def samPS : FSpec := ⟨[.ptr PD, I64], [L32, L32, .bool], samPG⟩
noncomputable def samF (a b : LS) (n : Int) : LS × LS × Bool := if vp a b = true ∧ (2 ≤ n ∧ n ≤ 128) ∧ smOk a b n = true then (mapR (smT a n) n.toNat, mapR (smV a b n) n.toNat, true) else ([], [], false)
noncomputable def samQG (x : Pr × Int) : Option (LS × LS × Bool) := if x.1.2.length < 2 ^ 62 then some (samF x.1.1 x.1.2 x.2) else none
noncomputable def samQS : FSpec := ⟨[PD, I64], [L32, L32, .bool], samQG⟩
def L_samS_1 : LSpec := ⟨[0, 1, 7, 8, 9, 10, 11], ⟨Shs.at 80 [(0, (.ptr 2 0 0)), (1, (.int IntKind.i64)), (7, (.slc 2146435456)), (8, (.slc 2146435457)), (9, (.flt FloatKind.f32)), (10, (.flt FloatKind.f32)), (11, (.int IntKind.i64))], [(2, (.vals false (.cons (.slc 3) (.cons (.slc 4) .nil)))), (3, (.arr false (EK.flt FloatKind.f32))), (4, (.arr false (EK.flt FloatKind.f32))), (2146435456, (.arr true (EK.flt FloatKind.f32))), (2146435457, (.arr true (EK.flt FloatKind.f32)))]⟩, [⟨.ext 0, [7, 8], ⟨Shs.at 80 [(7, (.slc 2146435456)), (8, (.slc 2146435457))], [(2, (.vals false (.cons (.slc 3) (.cons (.slc 4) .nil)))), (3, (.arr false (EK.flt FloatKind.f32))), (4, (.arr false (EK.flt FloatKind.f32))), (2146435456, (.arr true (EK.flt FloatKind.f32))), (2146435457, (.arr true (EK.flt FloatKind.f32)))]⟩⟩], fun _ => bigN⟩
def L_samS_2 : LSpec := ⟨[0, 6, 7], ⟨Shs.at 18 [(0, (.slc 2146435456)), (6, (.int IntKind.i64)), (7, (.int IntKind.i64))], [(2, (.vals false (.cons (.slc 3) (.cons (.slc 4) .nil)))), (3, (.arr false (EK.flt FloatKind.f32))), (4, (.arr false (EK.flt FloatKind.f32))), (2146435456, (.arr true (EK.flt FloatKind.f32))), (2146435457, (.arr true (EK.flt FloatKind.f32)))]⟩, [⟨.ret, [2, 3], ⟨Shs.at 18 [(2, (.slc 1172525023360)), (3, .bool)], [(2, (.vals false (.cons (.slc 3) (.cons (.slc 4) .nil)))), (3, (.arr false (EK.flt FloatKind.f32))), (4, (.arr false (EK.flt FloatKind.f32))), (2146435456, (.arr true (EK.flt FloatKind.f32))), (2146435457, (.arr true (EK.flt FloatKind.f32))), (1172525023360, (.arr true (EK.flt FloatKind.f32)))]⟩⟩, ⟨.ext 0, [0], ⟨Shs.at 18 [(0, (.slc 2146435456))], [(2, (.vals false (.cons (.slc 3) (.cons (.slc 4) .nil)))), (3, (.arr false (EK.flt FloatKind.f32))), (4, (.arr false (EK.flt FloatKind.f32))), (2146435456, (.arr true (EK.flt FloatKind.f32))), (2146435457, (.arr true (EK.flt FloatKind.f32)))]⟩⟩], fun _ => bigN⟩
def L_samS_3 : LSpec := ⟨[0, 6, 7], ⟨Shs.at 18 [(0, (.slc 2146435457)), (6, (.int IntKind.i64)), (7, (.int IntKind.i64))], [(2, (.vals false (.cons (.slc 3) (.cons (.slc 4) .nil)))), (3, (.arr false (EK.flt FloatKind.f32))), (4, (.arr false (EK.flt FloatKind.f32))), (2146435456, (.arr true (EK.flt FloatKind.f32))), (2146435457, (.arr true (EK.flt FloatKind.f32))), (1172525023360, (.arr true (EK.flt FloatKind.f32)))]⟩, [⟨.ret, [2, 3], ⟨Shs.at 18 [(2, (.slc 1177893732480)), (3, .bool)], [(2, (.vals false (.cons (.slc 3) (.cons (.slc 4) .nil)))), (3, (.arr false (EK.flt FloatKind.f32))), (4, (.arr false (EK.flt FloatKind.f32))), (2146435456, (.arr true (EK.flt FloatKind.f32))), (2146435457, (.arr true (EK.flt FloatKind.f32))), (1172525023360, (.arr true (EK.flt FloatKind.f32))), (1177893732480, (.arr true (EK.flt FloatKind.f32)))]⟩⟩, ⟨.ext 0, [0], ⟨Shs.at 18 [(0, (.slc 2146435457))], [(2, (.vals false (.cons (.slc 3) (.cons (.slc 4) .nil)))), (3, (.arr false (EK.flt FloatKind.f32))), (4, (.arr false (EK.flt FloatKind.f32))), (2146435456, (.arr true (EK.flt FloatKind.f32))), (2146435457, (.arr true (EK.flt FloatKind.f32))), (1172525023360, (.arr true (EK.flt FloatKind.f32)))]⟩⟩], fun _ => bigN⟩
def L_samS_4 : LSpec := ⟨[0, 6, 7], ⟨Shs.at 18 [(0, (.slc 2146435457)), (6, (.int IntKind.i64)), (7, (.int IntKind.i64))], [(2, (.vals false (.cons (.slc 3) (.cons (.slc 4) .nil)))), (3, (.arr false (EK.flt FloatKind.f32))), (4, (.arr false (EK.flt FloatKind.f32))), (2146435456, (.arr true (EK.flt FloatKind.f32))), (2146435457, (.arr true (EK.flt FloatKind.f32)))]⟩, [⟨.ret, [2, 3], ⟨Shs.at 18 [(2, (.slc 1177893732480)), (3, .bool)], [(2, (.vals false (.cons (.slc 3) (.cons (.slc 4) .nil)))), (3, (.arr false (EK.flt FloatKind.f32))), (4, (.arr false (EK.flt FloatKind.f32))), (2146435456, (.arr true (EK.flt FloatKind.f32))), (2146435457, (.arr true (EK.flt FloatKind.f32))), (1177893732480, (.arr true (EK.flt FloatKind.f32)))]⟩⟩, ⟨.ext 0, [0], ⟨Shs.at 18 [(0, (.slc 2146435457))], [(2, (.vals false (.cons (.slc 3) (.cons (.slc 4) .nil)))), (3, (.arr false (EK.flt FloatKind.f32))), (4, (.arr false (EK.flt FloatKind.f32))), (2146435456, (.arr true (EK.flt FloatKind.f32))), (2146435457, (.arr true (EK.flt FloatKind.f32)))]⟩⟩], fun _ => bigN⟩
def loops_samS (f k n : Nat) : Option LSpec := bif (Nat.beq f 92 && Nat.beq k 6 && Nat.beq n 1) then some L_samS_1 else bif (Nat.beq f 153 && Nat.beq k 2 && Nat.beq n 1091) then some L_samS_2 else bif (Nat.beq f 153 && Nat.beq k 2 && Nat.beq n 1096) then some L_samS_3 else bif (Nat.beq f 153 && Nat.beq k 2 && Nat.beq n 1237940039285380274899125320) then some L_samS_4 else none
abbrev S_samS_1 : Type := ((Int × (Nat × (Nat × ((Fl .f32) × ((Fl .f32) × (Int × Unit)))))) × ((Nat × (Nat × Unit)) × ((List (Fl .f32)) × ((List (Fl .f32)) × ((List (Fl .f32)) × ((List (Fl .f32)) × Unit))))))
abbrev R_samS_1 : Type := ((Nat × (Nat × Unit)) × ((Nat × (Nat × Unit)) × ((List (Fl .f32)) × ((List (Fl .f32)) × ((List (Fl .f32)) × ((List (Fl .f32)) × Unit))))))
noncomputable def B_samS_1 (y : S_samS_1) : Option (S_samS_1 ⊕ R_samS_1) := bif decide (y.1.2.2.2.2.2.1 < y.1.1) then (bif decide (y.1.2.1 + 1 ≤ maxA) then (Option.bind (tempPG ((sub y.2.2.1 0 y.2.1.1, sub y.2.2.2.1 0 y.2.1.2.1), fadd y.1.2.2.2.1 (fmul (fsub y.1.2.2.2.2.1 y.1.2.2.2.1) (fdiv (fofInt .f32 y.1.2.2.2.2.2.1) (fofInt .f32 (IntKind.i64.wrap (y.1.1 - 1))))))) fun (r1 : (Fl .f32)) => (bif decide (y.1.2.2.1 + 1 ≤ maxA) then (some (Sum.inl (((y.1.1, ((sub y.2.2.2.2.1 0 y.1.2.1 ++ [fadd y.1.2.2.2.1 (fmul (fsub y.1.2.2.2.2.1 y.1.2.2.2.1) (fdiv (fofInt .f32 y.1.2.2.2.2.2.1) (fofInt .f32 (IntKind.i64.wrap (y.1.1 - 1)))))]).length, ((sub y.2.2.2.2.2.1 0 y.1.2.2.1 ++ [r1]).length, (y.1.2.2.2.1, (y.1.2.2.2.2.1, (IntKind.i64.wrap (y.1.2.2.2.2.2.1 + 1), ())))))), ((y.2.1.1, (y.2.1.2.1, ())), (y.2.2.1, (y.2.2.2.1, (sub y.2.2.2.2.1 0 y.1.2.1 ++ [fadd y.1.2.2.2.1 (fmul (fsub y.1.2.2.2.2.1 y.1.2.2.2.1) (fdiv (fofInt .f32 y.1.2.2.2.2.2.1) (fofInt .f32 (IntKind.i64.wrap (y.1.1 - 1)))))], (sub y.2.2.2.2.2.1 0 y.1.2.2.1 ++ [r1], ()))))))))) else (none))) else (none)) else (some (Sum.inr (((y.1.2.1, (y.1.2.2.1, ())), ((y.2.1.1, (y.2.1.2.1, ())), (y.2.2.1, (y.2.2.2.1, (y.2.2.2.2.1, (y.2.2.2.2.2.1, ())))))))))
abbrev S_samS_2 : Type := ((Nat × (Int × (Int × Unit))) × ((Nat × (Nat × Unit)) × ((List (Fl .f32)) × ((List (Fl .f32)) × ((List (Fl .f32)) × ((List (Fl .f32)) × Unit))))))
abbrev R_samS_2 : Type := (((Nat × (Bool × Unit)) × ((Nat × (Nat × Unit)) × ((List (Fl .f32)) × ((List (Fl .f32)) × ((List (Fl .f32)) × ((List (Fl .f32)) × ((List (Fl .f32)) × Unit))))))) ⊕ ((Nat × Unit) × ((Nat × (Nat × Unit)) × ((List (Fl .f32)) × ((List (Fl .f32)) × ((List (Fl .f32)) × ((List (Fl .f32)) × Unit)))))))
noncomputable def B_samS_2 (y : S_samS_2) : Option (S_samS_2 ⊕ R_samS_2) := bif decide (y.1.2.2.1 < y.1.2.1) then (bif inB y.1.2.2.1 y.1.1 then (Option.bind (finG (List.getD y.2.2.2.2.1 (0 + Int.toNat y.1.2.2.1) dN)) fun (r3 : Bool) => (bif !r3 then (some (Sum.inr (Sum.inl (((0, (false, ())), ((y.2.1.1, (y.2.1.2.1, ())), (y.2.2.1, (y.2.2.2.1, (y.2.2.2.2.1, (y.2.2.2.2.2.1, ([], ()))))))))))) else (some (Sum.inl (((y.1.1, (y.1.2.1, (IntKind.i64.wrap (y.1.2.2.1 + 1), ()))), ((y.2.1.1, (y.2.1.2.1, ())), (y.2.2.1, (y.2.2.2.1, (y.2.2.2.2.1, (y.2.2.2.2.2.1, ()))))))))))) else (none)) else (some (Sum.inr (Sum.inr (((y.1.1, ()), ((y.2.1.1, (y.2.1.2.1, ())), (y.2.2.1, (y.2.2.2.1, (y.2.2.2.2.1, (y.2.2.2.2.2.1, ()))))))))))
abbrev S_samS_3 : Type := ((Nat × (Int × (Int × Unit))) × ((Nat × (Nat × Unit)) × ((List (Fl .f32)) × ((List (Fl .f32)) × ((List (Fl .f32)) × ((List (Fl .f32)) × ((List (Fl .f32)) × Unit)))))))
abbrev R_samS_3 : Type := (((Nat × (Bool × Unit)) × ((Nat × (Nat × Unit)) × ((List (Fl .f32)) × ((List (Fl .f32)) × ((List (Fl .f32)) × ((List (Fl .f32)) × ((List (Fl .f32)) × ((List (Fl .f32)) × Unit)))))))) ⊕ ((Nat × Unit) × ((Nat × (Nat × Unit)) × ((List (Fl .f32)) × ((List (Fl .f32)) × ((List (Fl .f32)) × ((List (Fl .f32)) × ((List (Fl .f32)) × Unit))))))))
noncomputable def B_samS_3 (y : S_samS_3) : Option (S_samS_3 ⊕ R_samS_3) := bif decide (y.1.2.2.1 < y.1.2.1) then (bif inB y.1.2.2.1 y.1.1 then (Option.bind (finG (List.getD y.2.2.2.2.2.1 (0 + Int.toNat y.1.2.2.1) dN)) fun (r6 : Bool) => (bif !r6 then (some (Sum.inr (Sum.inl (((0, (false, ())), ((y.2.1.1, (y.2.1.2.1, ())), (y.2.2.1, (y.2.2.2.1, (y.2.2.2.2.1, (y.2.2.2.2.2.1, (y.2.2.2.2.2.2.1, ([], ())))))))))))) else (some (Sum.inl (((y.1.1, (y.1.2.1, (IntKind.i64.wrap (y.1.2.2.1 + 1), ()))), ((y.2.1.1, (y.2.1.2.1, ())), (y.2.2.1, (y.2.2.2.1, (y.2.2.2.2.1, (y.2.2.2.2.2.1, (y.2.2.2.2.2.2.1, ())))))))))))) else (none)) else (some (Sum.inr (Sum.inr (((y.1.1, ()), ((y.2.1.1, (y.2.1.2.1, ())), (y.2.2.1, (y.2.2.2.1, (y.2.2.2.2.1, (y.2.2.2.2.2.1, (y.2.2.2.2.2.2.1, ())))))))))))
abbrev S_samS_4 : Type := ((Nat × (Int × (Int × Unit))) × ((Nat × (Nat × Unit)) × ((List (Fl .f32)) × ((List (Fl .f32)) × ((List (Fl .f32)) × ((List (Fl .f32)) × Unit))))))
abbrev R_samS_4 : Type := (((Nat × (Bool × Unit)) × ((Nat × (Nat × Unit)) × ((List (Fl .f32)) × ((List (Fl .f32)) × ((List (Fl .f32)) × ((List (Fl .f32)) × ((List (Fl .f32)) × Unit))))))) ⊕ ((Nat × Unit) × ((Nat × (Nat × Unit)) × ((List (Fl .f32)) × ((List (Fl .f32)) × ((List (Fl .f32)) × ((List (Fl .f32)) × Unit)))))))
noncomputable def B_samS_4 (y : S_samS_4) : Option (S_samS_4 ⊕ R_samS_4) := bif decide (y.1.2.2.1 < y.1.2.1) then (bif inB y.1.2.2.1 y.1.1 then (Option.bind (finG (List.getD y.2.2.2.2.2.1 (0 + Int.toNat y.1.2.2.1) dN)) fun (r9 : Bool) => (bif !r9 then (some (Sum.inr (Sum.inl (((0, (false, ())), ((y.2.1.1, (y.2.1.2.1, ())), (y.2.2.1, (y.2.2.2.1, (y.2.2.2.2.1, (y.2.2.2.2.2.1, ([], ()))))))))))) else (some (Sum.inl (((y.1.1, (y.1.2.1, (IntKind.i64.wrap (y.1.2.2.1 + 1), ()))), ((y.2.1.1, (y.2.1.2.1, ())), (y.2.2.1, (y.2.2.2.1, (y.2.2.2.2.1, (y.2.2.2.2.2.1, ()))))))))))) else (none)) else (some (Sum.inr (Sum.inr (((y.1.1, ()), ((y.2.1.1, (y.2.1.2.1, ())), (y.2.2.1, (y.2.2.2.1, (y.2.2.2.2.1, (y.2.2.2.2.2.1, ()))))))))))
noncomputable def ss_samS : List (Nat × FSpec) := [(152, tempPS), (102, finS)]
theorem ssOk_samS : FTolds Try.prog ss_samS := ⟨s_tempS, s_l01Finite, trivial⟩
noncomputable def Γ_samS : Ctx := ctxOf Try.prog tys fs ss_samS loops_samS
noncomputable def d_samS (a b : LS) (n : Int) : Option (((List (Fl .f32)) × ((List (Fl .f32)) × Bool))) := bif inB 0 (List.length a) then (bif inB (IntKind.i64.wrap (((List.length a : Nat) : Int) - 1)) (List.length a) then (Option.bind (iter B_samS_1 bigN (((n, (0, (0, (List.getD a (0 + Int.toNat 0) dN, (List.getD a (0 + (IntKind.i64.wrap (((List.length a : Nat) : Int) - 1)).toNat) dN, (0, ())))))), ((List.length a, (List.length b, ())), (a, (b, ([], ([], ())))))))) fun (r0 : ((Nat × (Nat × Unit)) × ((Nat × (Nat × Unit)) × ((List (Fl .f32)) × ((List (Fl .f32)) × ((List (Fl .f32)) × ((List (Fl .f32)) × Unit))))))) => (Option.bind (iter B_samS_2 bigN (((r0.1.1, ((r0.1.1 : Int), (0, ()))), ((r0.2.1.1, (r0.2.1.2.1, ())), (r0.2.2.1, (r0.2.2.2.1, (r0.2.2.2.2.1, (r0.2.2.2.2.2.1, ())))))))) fun (r2 : (((Nat × (Bool × Unit)) × ((Nat × (Nat × Unit)) × ((List (Fl .f32)) × ((List (Fl .f32)) × ((List (Fl .f32)) × ((List (Fl .f32)) × ((List (Fl .f32)) × Unit))))))) ⊕ ((Nat × Unit) × ((Nat × (Nat × Unit)) × ((List (Fl .f32)) × ((List (Fl .f32)) × ((List (Fl .f32)) × ((List (Fl .f32)) × Unit)))))))) => (match r2 with | .inl x4 => (Option.bind (iter B_samS_3 bigN (((r0.1.2.1, ((r0.1.2.1 : Int), (0, ()))), ((x4.2.1.1, (x4.2.1.2.1, ())), (x4.2.2.1, (x4.2.2.2.1, (x4.2.2.2.2.1, (x4.2.2.2.2.2.1, (x4.2.2.2.2.2.2.1, ()))))))))) fun (r5 : (((Nat × (Bool × Unit)) × ((Nat × (Nat × Unit)) × ((List (Fl .f32)) × ((List (Fl .f32)) × ((List (Fl .f32)) × ((List (Fl .f32)) × ((List (Fl .f32)) × ((List (Fl .f32)) × Unit)))))))) ⊕ ((Nat × Unit) × ((Nat × (Nat × Unit)) × ((List (Fl .f32)) × ((List (Fl .f32)) × ((List (Fl .f32)) × ((List (Fl .f32)) × ((List (Fl .f32)) × Unit))))))))) => (match r5 with | .inl x7 => (bif x4.1.2.1 then (some ((sub x7.2.2.2.2.1 0 r0.1.1, (sub x7.2.2.2.2.2.1 0 r0.1.2.1, x7.1.2.1)))) else (some ((sub x7.2.2.2.2.1 0 r0.1.1, (sub x7.2.2.2.2.2.1 0 r0.1.2.1, false))))) | .inr x7 => (bif x4.1.2.1 then (some ((sub x7.2.2.2.2.1 0 r0.1.1, (sub x7.2.2.2.2.2.1 0 r0.1.2.1, true)))) else (some ((sub x7.2.2.2.2.1 0 r0.1.1, (sub x7.2.2.2.2.2.1 0 r0.1.2.1, false))))))) | .inr x4 => (Option.bind (iter B_samS_4 bigN (((r0.1.2.1, ((r0.1.2.1 : Int), (0, ()))), ((x4.2.1.1, (x4.2.1.2.1, ())), (x4.2.2.1, (x4.2.2.2.1, (x4.2.2.2.2.1, (x4.2.2.2.2.2.1, ())))))))) fun (r8 : (((Nat × (Bool × Unit)) × ((Nat × (Nat × Unit)) × ((List (Fl .f32)) × ((List (Fl .f32)) × ((List (Fl .f32)) × ((List (Fl .f32)) × ((List (Fl .f32)) × Unit))))))) ⊕ ((Nat × Unit) × ((Nat × (Nat × Unit)) × ((List (Fl .f32)) × ((List (Fl .f32)) × ((List (Fl .f32)) × ((List (Fl .f32)) × Unit)))))))) => (match r8 with | .inl x10 => (some ((sub x10.2.2.2.2.1 0 r0.1.1, (sub x10.2.2.2.2.2.1 0 r0.1.2.1, x10.1.2.1)))) | .inr x10 => (some ((sub x10.2.2.2.2.1 0 r0.1.1, (sub x10.2.2.2.2.2.1 0 r0.1.2.1, true))))))))) else (none)) else (none)
theorem t_samS (a b : LS) (n : Int) : (fnT Γ_samS 10 92 [.ptr PD, I64] [L32, L32, .bool] ((a, b), n)).den = d_samS a b n := by kernel_rfl
theorem p_samS (a b : LS) (n : Int) (r : ((List (Fl .f32)) × ((List (Fl .f32)) × Bool))) (h : samPG ((a, b), n) = some r) : d_samS a b n = some r := by
  obtain ⟨⟨h1, h2, h3⟩, rfl⟩ := if_some (show (if vp a b = true ∧ 2 ≤ n ∧ n ≤ 128 then some (mapR (smT a n) n.toNat, mapR (smV a b n) n.toNat, smOk a b n) else none) = some r from h)
  obtain ⟨v1, v2, v3, _⟩ := vp_of h1
  obtain ⟨j, rfl⟩ : ∃ j : Nat, n = j := ⟨n.toNat, by omega⟩
  have z0 : inB 0 a.length = true := inB_of (i := 0) (by omega)
  unfold d_samS
  simp only [z0, dec64 (show 1 ≤ a.length by omega) (show a.length < 2 ^ 62 by omega), inB_of (show a.length - 1 < a.length by omega), cond_true, Int.toNat_natCast, Int.toNat_zero, Nat.zero_add]
  have key1 := iter_for (B := B_samS_1) (fun i => (((j : Int), (i, (i, (a.getD 0 dN, (a.getD (a.length - 1) dN, ((i : Int), ())))))), ((a.length, (b.length, ())), (a, (b, (mapR (smT a j) i, (mapR (smV a b j) i, ()))))))) 0 j ((j, (j, ())), ((a.length, (b.length, ())), (a, (b, (mapR (smT a j) j, (mapR (smV a b j) j, ())))))) (Nat.zero_le _) (by omega) (fun i _ hi => by
    have k1 : ∀ t, tempPG ((a, b), t) = some (tempF a b t) := fun t => if_pos ⟨v1, v2, v3⟩
    have k2 : fadd (a.getD 0 dN) (fmul (fsub (a.getD (a.length - 1) dN) (a.getD 0 dN)) (fdiv (fofInt .f32 (i : Int)) (fofInt .f32 (IntKind.i64.wrap ((j : Int) - 1))))) = smT a j i := rfl
    have k3 : tempF a b (smT a j i) = smV a b j i := rfl
    unfold B_samS_1
    simp only [ltT hi, inc64 hi (show j < 2 ^ 62 by omega), cond_true, maxA_one (show i < 2 ^ 30 by omega), sub_all, k1, k2, k3, Option.bind_some, sub_mapR9, ← mapR_succ (smT a j) i, ← mapR_succ (smV a b j) i, mapR_len]) (by
    unfold B_samS_1
    simp only [ltF, cond_false])
  refine (congrArg (fun z => Option.bind z _) (show iter B_samS_1 bigN _ = _ from key1)).trans ?_
  simp only [Option.bind_some]
  unfold smOk
  rw [Int.toNat_natCast]
  have l1 := mapR_len (smT a j) j
  have l2 := mapR_len (smV a b j) j
  generalize mapR (smT a j) j = P at l1 ⊢
  generalize mapR (smV a b j) j = Q at l2 ⊢
  subst l1
  have key2 := iter_find' (B := B_samS_2) (fun i => ((P.length, ((P.length : Int), ((i : Int), ()))), ((a.length, (b.length, ())), (a, (b, (P, (Q, ()))))))) 0 P.length (fun i => if fin (P.getD i dN) = true then none else some (.inl ((0, (false, ())), ((a.length, (b.length, ())), (a, (b, (P, (Q, ([], ()))))))))) (.inr ((P.length, ()), ((a.length, (b.length, ())), (a, (b, (P, (Q, ()))))))) (Nat.zero_le _) (by omega) (fun i _ hi => by
    unfold B_samS_2 finG
    simp only [ltT hi, inB_of hi, inc64 hi (show P.length < 2 ^ 62 by omega), cond_true, Int.toNat_natCast, Nat.zero_add, Option.bind_some]
    by_cases e : fin (P.getD i dN) = true
    · rw [if_pos e, e]; rfl
    · rw [if_neg e, Bool.eq_false_iff.2 e]; rfl) (by
    unfold B_samS_2
    simp only [ltF, cond_false])
  refine (congrArg (fun z => Option.bind z _) (show iter B_samS_2 bigN _ = _ from key2)).trans ?_
  rcases firstOf_const (fun i => fin (P.getD i dN)) (.inl ((0, (false, ())), ((a.length, (b.length, ())), (a, (b, (P, (Q, ([], ()))))))) : R_samS_2) (P.length - 0) 0 with ⟨q, hall⟩ | ⟨q, l, _, hl, hbad⟩
  · rw [q, all_yes (l := P) (fun i hi => hall i (Nat.zero_le _) (by omega))]
    simp only [Option.getD_none, Option.bind_some]
    have key4 := iter_find' (B := B_samS_4) (fun i => ((P.length, ((P.length : Int), ((i : Int), ()))), ((a.length, (b.length, ())), (a, (b, (P, (Q, ()))))))) 0 P.length (fun i => if fin (Q.getD i dN) = true then none else some (.inl ((0, (false, ())), ((a.length, (b.length, ())), (a, (b, (P, (Q, ([], ()))))))))) (.inr ((P.length, ()), ((a.length, (b.length, ())), (a, (b, (P, (Q, ()))))))) (Nat.zero_le _) (by omega) (fun i _ hi => by
      unfold B_samS_4 finG
      simp only [ltT hi, inB_of hi, inc64 hi (show P.length < 2 ^ 62 by omega), cond_true, Int.toNat_natCast, Nat.zero_add, Option.bind_some]
      by_cases e : fin (Q.getD i dN) = true
      · rw [if_pos e, e]; rfl
      · rw [if_neg e, Bool.eq_false_iff.2 e]; rfl) (by
      unfold B_samS_4
      simp only [ltF, cond_false])
    refine (congrArg (fun z => Option.bind z _) (show iter B_samS_4 bigN _ = _ from key4)).trans ?_
    rcases firstOf_const (fun i => fin (Q.getD i dN)) (.inl ((0, (false, ())), ((a.length, (b.length, ())), (a, (b, (P, (Q, ([], ()))))))) : R_samS_4) (P.length - 0) 0 with ⟨q, hall⟩ | ⟨q, l, _, hl, hbad⟩
    · rw [q, all_yes (l := Q) (fun i hi => hall i (Nat.zero_le _) (by omega))]
      simp only [Option.getD_none, Option.bind_some, sub_all]
      rw [← l2, sub_all]; rfl
    · rw [q, all_no (l := Q) (i := l) (by omega) hbad]
      simp only [Option.getD_some, Option.bind_some, sub_all]
      rw [← l2, sub_all]; rfl
  · rw [q, all_no (l := P) (i := l) (by omega) hbad]
    simp only [Option.getD_some, Option.bind_some]
    have key3 := iter_find' (B := B_samS_3) (fun i => ((P.length, ((P.length : Int), ((i : Int), ()))), ((a.length, (b.length, ())), (a, (b, (P, (Q, ([], ())))))))) 0 P.length (fun i => if fin (Q.getD i dN) = true then none else some (.inl ((0, (false, ())), ((a.length, (b.length, ())), (a, (b, (P, (Q, ([], ([], ())))))))))) (.inr ((P.length, ()), ((a.length, (b.length, ())), (a, (b, (P, (Q, ([], ())))))))) (Nat.zero_le _) (by omega) (fun i _ hi => by
      unfold B_samS_3 finG
      simp only [ltT hi, inB_of hi, inc64 hi (show P.length < 2 ^ 62 by omega), cond_true, Int.toNat_natCast, Nat.zero_add, Option.bind_some]
      by_cases e : fin (Q.getD i dN) = true
      · rw [if_pos e, e]; rfl
      · rw [if_neg e, Bool.eq_false_iff.2 e]; rfl) (by
      unfold B_samS_3
      simp only [ltF, cond_false])
    refine (congrArg (fun z => Option.bind z _) (show iter B_samS_3 bigN _ = _ from key3)).trans ?_
    rcases firstOf_const (fun i => fin (Q.getD i dN)) (.inl ((0, (false, ())), ((a.length, (b.length, ())), (a, (b, (P, (Q, ([], ([], ())))))))) : R_samS_3) (P.length - 0) 0 with ⟨q, hall⟩ | ⟨q, l, _, hl, hbad⟩
    · rw [q]
      simp only [Option.getD_none, Option.bind_some, sub_all]
      rw [← l2, sub_all]; rfl
    · rw [q]
      simp only [Option.getD_some, Option.bind_some, sub_all]
      rw [← l2, sub_all]; rfl
theorem s_samS : FTold Try.prog 92 samPS := walkedF (fs := fs) (ss := ss_samS) (loop := loops_samS) tysOk mixed fnsOk ssOk_samS 10 92 [.ptr PD, I64] [L32, L32, .bool] rfl _ fun ((a, b), n) r h => (t_samS a b n).trans (p_samS a b n r h)
theorem sam_no {a b : LS} {n : Int} (h : ¬ (vp a b = true ∧ (2 ≤ n ∧ n ≤ 128) ∧ smOk a b n = true)) : samF a b n = ([], [], false) := if_neg h
theorem sam_yes {a b : LS} {n : Int} (h : vp a b = true ∧ (2 ≤ n ∧ n ≤ 128) ∧ smOk a b n = true) : samF a b n = (mapR (smT a n) n.toNat, mapR (smV a b n) n.toNat, true) := if_pos h
def L_SamI_1 : LSpec := ⟨[1, 2, 7, 8, 9, 10, 37, 38], ⟨Shs.at 77 [(1, (.int IntKind.i64)), (2, (.ptr 2146435456 0 0)), (7, (.slc 2146435457)), (8, (.slc 2146435458)), (9, (.flt FloatKind.f32)), (10, (.flt FloatKind.f32)), (37, (.int IntKind.i64)), (38, (.int IntKind.i64))], [(2, (.arr false (EK.flt FloatKind.f32))), (3, (.arr false (EK.flt FloatKind.f32))), (2146435456, (.vals true (.cons (.slc 2) (.cons (.slc 3) .nil)))), (2146435457, (.arr true (EK.flt FloatKind.f32))), (2146435458, (.arr true (EK.flt FloatKind.f32)))]⟩, [⟨.ret, [4, 5, 6], ⟨Shs.at 77 [(4, (.slc 2146435456)), (5, (.slc 2146435457)), (6, .bool)], [(2, (.arr false (EK.flt FloatKind.f32))), (3, (.arr false (EK.flt FloatKind.f32))), (2146435456, (.arr true (EK.flt FloatKind.f32))), (2146435457, (.arr true (EK.flt FloatKind.f32)))]⟩⟩, ⟨.ext 0, [7, 8], ⟨Shs.at 77 [(7, (.slc 2146435456)), (8, (.slc 2146435457))], [(2, (.arr false (EK.flt FloatKind.f32))), (3, (.arr false (EK.flt FloatKind.f32))), (2146435456, (.arr true (EK.flt FloatKind.f32))), (2146435457, (.arr true (EK.flt FloatKind.f32)))]⟩⟩], fun _ => bigN⟩
def loops_SamI (f k n : Nat) : Option LSpec := bif (Nat.beq f 96 && Nat.beq k 6 && Nat.beq n 1) then some L_SamI_1 else none
abbrev S_SamI_1 : Type := ((Int × (Nat × (Nat × ((Fl .f32) × ((Fl .f32) × (Int × (Int × Unit))))))) × ((List (Fl .f32)) × ((List (Fl .f32)) × ((Nat × (Nat × Unit)) × ((List (Fl .f32)) × ((List (Fl .f32)) × Unit))))))
abbrev R_SamI_1 : Type := (((Nat × (Nat × (Bool × Unit))) × ((List (Fl .f32)) × ((List (Fl .f32)) × ((List (Fl .f32)) × ((List (Fl .f32)) × Unit))))) ⊕ ((Nat × (Nat × Unit)) × ((List (Fl .f32)) × ((List (Fl .f32)) × ((List (Fl .f32)) × ((List (Fl .f32)) × Unit))))))
noncomputable def B_SamI_1 (y : S_SamI_1) : Option (S_SamI_1 ⊕ R_SamI_1) := bif decide (y.1.2.2.2.2.2.2.1 < y.1.2.2.2.2.2.1) then (Option.bind (TempG ((sub y.2.1 0 y.2.2.2.1.1, sub y.2.2.1 0 y.2.2.2.1.2.1), fadd y.1.2.2.2.1 (fmul (fsub y.1.2.2.2.2.1 y.1.2.2.2.1) (fdiv (fofInt .f32 y.1.2.2.2.2.2.2.1) (fofInt .f32 (IntKind.i64.wrap (y.1.1 - 1))))))) fun (r3 : ((Fl .f32) × Bool)) => (bif !r3.2 then (some (Sum.inr (Sum.inl (((0, (0, (false, ()))), (y.2.1, (y.2.2.1, ([], ([], ()))))))))) else (Option.bind (finG (fadd y.1.2.2.2.1 (fmul (fsub y.1.2.2.2.2.1 y.1.2.2.2.1) (fdiv (fofInt .f32 y.1.2.2.2.2.2.2.1) (fofInt .f32 (IntKind.i64.wrap (y.1.1 - 1))))))) fun (r4 : Bool) => (bif !r4 then (some (Sum.inr (Sum.inl (((0, (0, (false, ()))), (y.2.1, (y.2.2.1, ([], ([], ()))))))))) else (bif decide (y.1.2.1 + 1 ≤ maxA) then (bif decide (y.1.2.2.1 + 1 ≤ maxA) then (some (Sum.inl (((y.1.1, ((sub y.2.2.2.2.1 0 y.1.2.1 ++ [fadd y.1.2.2.2.1 (fmul (fsub y.1.2.2.2.2.1 y.1.2.2.2.1) (fdiv (fofInt .f32 y.1.2.2.2.2.2.2.1) (fofInt .f32 (IntKind.i64.wrap (y.1.1 - 1)))))]).length, ((sub y.2.2.2.2.2.1 0 y.1.2.2.1 ++ [r3.1]).length, (y.1.2.2.2.1, (y.1.2.2.2.2.1, (y.1.2.2.2.2.2.1, (IntKind.i64.wrap (y.1.2.2.2.2.2.2.1 + 1), ()))))))), (y.2.1, (y.2.2.1, ((y.2.2.2.1.1, (y.2.2.2.1.2.1, ())), (sub y.2.2.2.2.1 0 y.1.2.1 ++ [fadd y.1.2.2.2.1 (fmul (fsub y.1.2.2.2.2.1 y.1.2.2.2.1) (fdiv (fofInt .f32 y.1.2.2.2.2.2.2.1) (fofInt .f32 (IntKind.i64.wrap (y.1.1 - 1)))))], (sub y.2.2.2.2.2.1 0 y.1.2.2.1 ++ [r3.1], ()))))))))) else (none)) else (none)))))) else (some (Sum.inr (Sum.inr (((y.1.2.1, (y.1.2.2.1, ())), (y.2.1, (y.2.2.1, (y.2.2.2.2.1, (y.2.2.2.2.2.1, ())))))))))
noncomputable def ss_SamI : List (Nat × FSpec) := [(62, vpS), (84, withinS), (155, TempS), (106, finS)]
theorem ssOk_SamI : FTolds Try.prog ss_SamI := ⟨s_validI, s_within, s_TempI, s_IsFinite, trivial⟩
noncomputable def Γ_SamI : Ctx := ctxOf Try.prog tys fs ss_SamI loops_SamI
noncomputable def d_SamI (a b : LS) (n : Int) : Option (((List (Fl .f32)) × ((List (Fl .f32)) × Bool))) := Option.bind (vpG (sub a 0 (List.length a), sub b 0 (List.length b))) fun (r0 : Bool) => (bif !r0 then (some (([], ([], false)))) else (Option.bind (withinG (n, 2, 128)) fun (r1 : Bool) => (bif !r1 then (some (([], ([], false)))) else (bif inB 0 (List.length a) then (bif inB (IntKind.i64.wrap (((List.length a : Nat) : Int) - 1)) (List.length a) then (Option.bind (iter B_SamI_1 bigN (((n, (0, (0, (List.getD a (0 + Int.toNat 0) dN, (List.getD a (0 + (IntKind.i64.wrap (((List.length a : Nat) : Int) - 1)).toNat) dN, (n, (0, ()))))))), (a, (b, ((List.length a, (List.length b, ())), ([], ([], ())))))))) fun (r2 : (((Nat × (Nat × (Bool × Unit))) × ((List (Fl .f32)) × ((List (Fl .f32)) × ((List (Fl .f32)) × ((List (Fl .f32)) × Unit))))) ⊕ ((Nat × (Nat × Unit)) × ((List (Fl .f32)) × ((List (Fl .f32)) × ((List (Fl .f32)) × ((List (Fl .f32)) × Unit))))))) => (match r2 with | .inl x5 => (some ((sub x5.2.2.2.1 0 x5.1.1, (sub x5.2.2.2.2.1 0 x5.1.2.1, x5.1.2.2.1)))) | .inr x5 => (some ((sub x5.2.2.2.1 0 x5.1.1, (sub x5.2.2.2.2.1 0 x5.1.2.1, true)))))) else (none)) else (none)))))
theorem t_SamI (a b : LS) (n : Int) : (fnT Γ_SamI 10 96 [PD, I64] [L32, L32, .bool] ((a, b), n)).den = d_SamI a b n := by kernel_rfl
theorem p_SamI (a b : LS) (n : Int) (r : ((List (Fl .f32)) × ((List (Fl .f32)) × Bool))) (h : samQG ((a, b), n) = some r) : d_SamI a b n = some r := by
  obtain ⟨hb, rfl⟩ := if_some (show (if b.length < 2 ^ 62 then some (samF a b n) else none) = some r from h)
  have k0 : vpG (a, b) = some (vp a b) := if_pos hb
  unfold d_SamI withinG
  simp only [sub_all, k0, Option.bind_some]
  cases hv : vp a b with
  | false => rw [sam_no fun k => by have := k.1; rw [hv] at this; cases this]; rfl
  | true =>
    obtain ⟨v1, v2, v3, _⟩ := vp_of hv
    by_cases h2 : 2 ≤ n
    case neg => rw [sam_no fun k => h2 k.2.1.1, decide_eq_false h2]; rfl
    by_cases h3 : n ≤ 128
    case neg => rw [sam_no fun k => h3 k.2.1.2, decide_eq_false h3, decide_eq_true h2]; rfl
    obtain ⟨j, rfl⟩ : ∃ j : Nat, n = j := ⟨n.toNat, by omega⟩
    have z0 : inB 0 a.length = true := inB_of (i := 0) (by omega)
    simp only [decide_eq_true h2, decide_eq_true h3, Bool.not_true, Bool.and_self, cond_false, z0, dec64 (show 1 ≤ a.length by omega) (show a.length < 2 ^ 62 by omega), inB_of (show a.length - 1 < a.length by omega), cond_true, Int.toNat_natCast, Int.toNat_zero, Nat.zero_add]
    have key1 := iter_find' (B := B_SamI_1) (fun i => (((j : Int), (i, (i, (a.getD 0 dN, (a.getD (a.length - 1) dN, ((j : Int), ((i : Int), ()))))))), (a, (b, ((a.length, (b.length, ())), (mapR (smT a j) i, (mapR (smV a b j) i, ()))))))) 0 j (fun i => if (fin (smT a j i) && fin (smV a b j i)) = true then none else some (.inl ((0, (0, (false, ()))), (a, (b, ([], ([], ()))))))) (.inr ((j, (j, ())), (a, (b, (mapR (smT a j) j, (mapR (smV a b j) j, ())))))) (Nat.zero_le _) (by omega) (fun i _ hi => by
      have k1 : ∀ t, TempG ((a, b), t) = some (TempF a b t) := fun t => if_pos hb
      have k2 : fadd (a.getD 0 dN) (fmul (fsub (a.getD (a.length - 1) dN) (a.getD 0 dN)) (fdiv (fofInt .f32 (i : Int)) (fofInt .f32 (IntKind.i64.wrap ((j : Int) - 1))))) = smT a j i := rfl
      unfold B_SamI_1 finG
      simp only [ltT hi, inc64 hi (show j < 2 ^ 62 by omega), cond_true, sub_all, k1, k2, Option.bind_some]
      cases e1 : fin (smT a j i) with
      | false =>
        have e0 : TempF a b (smT a j i) = (Fl.of .f32 0, false) := if_neg (fun k => by have := k.2; rw [e1] at this; cases this)
        rw [e0]; rfl
      | true =>
        have e0 : TempF a b (smT a j i) = tellF (smV a b j i) := if_pos ⟨hv, e1⟩
        rw [e0]
        cases e2 : fin (smV a b j i) with
        | false =>
          have e3 : tellF (smV a b j i) = (Fl.of .f32 0, false) := if_neg (fun k => by rw [e2] at k; cases k)
          rw [e3]; rfl
        | true =>
          have e3 : tellF (smV a b j i) = (smV a b j i, true) := if_pos e2
          rw [e3]
          simp only [Bool.not_true, Bool.and_self, if_true, cond_false, maxA_one (show i < 2 ^ 30 by omega), cond_true, sub_mapR9, ← mapR_succ (smT a j) i, ← mapR_succ (smV a b j) i, mapR_len]) (by
      unfold B_SamI_1
      simp only [ltF, cond_false])
    refine (congrArg (fun z => Option.bind z _) (show iter B_SamI_1 bigN _ = _ from key1)).trans ?_
    rcases firstOf_const (fun i => fin (smT a j i) && fin (smV a b j i)) (.inl ((0, (0, (false, ()))), (a, (b, ([], ([], ()))))) : R_SamI_1) (j - 0) 0 with ⟨q, hall⟩ | ⟨q, l, _, hl, hbad⟩
    · rw [q]
      have ok : smOk a b j = true := by
        unfold smOk
        rw [Int.toNat_natCast, all_yes (l := mapR (smT a j) j) (fun i hi => by
          rw [mapR_len] at hi
          rw [mapR_get _ _ hi]
          have := hall i (Nat.zero_le _) (by omega)
          exact (Bool.and_eq_true _ _ ▸ this).1), all_yes (l := mapR (smV a b j) j) (fun i hi => by
          rw [mapR_len] at hi
          rw [mapR_get _ _ hi]
          have := hall i (Nat.zero_le _) (by omega)
          exact (Bool.and_eq_true _ _ ▸ this).2)]
        rfl
      rw [sam_yes ⟨hv, ⟨h2, h3⟩, ok⟩]
      simp only [Option.getD_none, Option.bind_some, sub_mapR9, Int.toNat_natCast]
    · rw [q, sam_no fun k => by
        have ho := k.2.2
        unfold smOk at ho
        rw [Int.toNat_natCast, Bool.and_eq_true] at ho
        have a1 := allf_get ho.1 (i := l) (by rw [mapR_len]; omega)
        have a2 := allf_get ho.2 (i := l) (by rw [mapR_len]; omega)
        rw [mapR_get _ _ (by omega)] at a1 a2
        rw [a1, a2] at hbad
        cases hbad]
      rfl
theorem s_SamI : FTold Try.prog 96 samQS := walkedF (fs := fs) (ss := ss_SamI) (loop := loops_SamI) tysOk mixed fnsOk ssOk_SamI 10 96 [PD, I64] [L32, L32, .bool] rfl _ fun ((a, b), n) r h => (t_SamI a b n).trans (p_SamI a b n r h)
theorem sam_len (a b : LS) (n : Int) : (samF a b n).1.length ≤ 128 ∧ (samF a b n).2.1.length ≤ 128 := by
  by_cases h : vp a b = true ∧ (2 ≤ n ∧ n ≤ 128) ∧ smOk a b n = true
  · rw [sam_yes h, mapR_len, mapR_len]
    have := h.2.1.2
    omega
  · rw [sam_no h]; exact ⟨Nat.zero_le _, Nat.zero_le _⟩
noncomputable def yesMG (x : Pr × Int) : Option Bool := if x.1.1.length ≤ maxLen ∧ x.1.2.length ≤ maxLen then some true else none
noncomputable def yesMS : FSpec := ⟨[PD, I64], [.bool], yesMG⟩
end Go.Proofs.Ytjggcekliaalgaa
