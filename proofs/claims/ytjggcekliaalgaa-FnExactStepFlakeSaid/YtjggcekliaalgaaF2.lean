/- Flakes: steps of the reference. No condition. -/
import Derived.Test.YtjggcekliaalgaaF1
namespace Go.Proofs.Ytjggcekliaalgaa
open Go.Ab
abbrev LB : DS := .list .bool
def dirs : List (Int × Int) := [(1, 0), (-1, 0), (0, 1), (0, -1), (1, -1), (-1, 1)]
def insB (n u v : Int) : Bool := (decide (0 ≤ u) && decide (u ≤ n - 1)) && (decide (0 ≤ v) && decide (v ≤ n - 1))
def nearV (n x y : Int) (d : Int × Int) : Int := bif insB n (x + d.1) (y + d.2) then x + d.1 + n * (y + d.2) else -1
def nearL (n x y : Int) : LI := dirs.map (nearV n x y)
theorem near_step (n x y u v : Int) (k : Nat) (d : Int × Int) (hd : dirs[k]? = some d) (hu : u = x + d.1) (hv : v = y + d.2) : (nearL n x y).take (k + 1) = (nearL n x y).take k ++ [bif insB n u v then u + n * v else -1] := by
  have h : (nearL n x y)[k]? = some (nearV n x y d) := by unfold nearL; rw [List.getElem?_map, hd]; rfl
  obtain ⟨hk, h⟩ := List.getElem?_eq_some_iff.1 h
  rw [List.take_succ_eq_append_getElem hk, h, hu, hv]
  rfl
theorem nb_of {n : Int} (v : Int) (hv0 : -1 ≤ v) (hv1 : v ≤ 1025) (h1 : 3 ≤ n) (h2 : n ≤ 16) : -17000 ≤ n * v ∧ n * v ≤ 17000 := by
  have a : n * v ≤ n * 1025 := Int.mul_le_mul_of_nonneg_left hv1 (by omega)
  have b : n * (-1) ≤ n * v := Int.mul_le_mul_of_nonneg_left hv0 (by omega)
  omega
def nearG (x : Int × Int) : Option LI := if 3 ≤ x.1 ∧ x.1 ≤ 16 ∧ 0 ≤ x.2 ∧ x.2 < 2 ^ 10 then some (nearL x.1 (x.2 % x.1) (x.2 / x.1)) else none
def nearS : FSpec := ⟨[I64, I64], [L64], nearG⟩
def L_nearF_1 : LSpec := ⟨[0, 5, 6, 7, 8], ⟨Shs.at 73 [(0, (.int IntKind.i64)), (5, (.int IntKind.i64)), (6, (.int IntKind.i64)), (7, (.slc 2146435392)), (8, (.int IntKind.i64))], [(2146435392, (.arr true (EK.int IntKind.i64)))]⟩, [⟨.ext 0, [7], ⟨Shs.at 73 [(7, (.slc 2146435392))], [(2146435392, (.arr true (EK.int IntKind.i64)))]⟩⟩], fun _ => bigN⟩
def loops_nearF (f k n : Nat) : Option LSpec := bif (Nat.beq f 175 && Nat.beq k 5 && Nat.beq n 1) then some L_nearF_1 else none
abbrev S_nearF_1 : Type := ((Int × (Int × (Int × (Nat × (Int × Unit))))) × ((List Int) × Unit))
abbrev R_nearF_1 : Type := ((Nat × Unit) × ((List Int) × Unit))
noncomputable def B_nearF_1 (y : S_nearF_1) : Option (S_nearF_1 ⊕ R_nearF_1) := bif decide (y.1.2.2.2.2.1 < 6) then (bif y.1.2.2.2.2.1 == 0 then (Option.bind (withinG (IntKind.i64.wrap (y.1.2.1 + 1), 0, IntKind.i64.wrap (y.1.1 - 1))) fun (r1 : Bool) => (bif r1 then (Option.bind (withinG (y.1.2.2.1, 0, IntKind.i64.wrap (y.1.1 - 1))) fun (r2 : Bool) => (bif r2 then (bif decide (y.1.2.2.2.1 + 1 ≤ maxA) then (some (Sum.inl (((y.1.1, (y.1.2.1, (y.1.2.2.1, ((sub y.2.1 0 y.1.2.2.2.1 ++ [IntKind.i64.wrap (IntKind.i64.wrap (y.1.2.1 + 1) + IntKind.i64.wrap (y.1.1 * y.1.2.2.1))]).length, (IntKind.i64.wrap (y.1.2.2.2.2.1 + 1), ()))))), (sub y.2.1 0 y.1.2.2.2.1 ++ [IntKind.i64.wrap (IntKind.i64.wrap (y.1.2.1 + 1) + IntKind.i64.wrap (y.1.1 * y.1.2.2.1))], ()))))) else (none)) else (bif decide (y.1.2.2.2.1 + 1 ≤ maxA) then (some (Sum.inl (((y.1.1, (y.1.2.1, (y.1.2.2.1, ((sub y.2.1 0 y.1.2.2.2.1 ++ [-1]).length, (IntKind.i64.wrap (y.1.2.2.2.2.1 + 1), ()))))), (sub y.2.1 0 y.1.2.2.2.1 ++ [-1], ()))))) else (none)))) else (bif decide (y.1.2.2.2.1 + 1 ≤ maxA) then (some (Sum.inl (((y.1.1, (y.1.2.1, (y.1.2.2.1, ((sub y.2.1 0 y.1.2.2.2.1 ++ [-1]).length, (IntKind.i64.wrap (y.1.2.2.2.2.1 + 1), ()))))), (sub y.2.1 0 y.1.2.2.2.1 ++ [-1], ()))))) else (none)))) else (bif y.1.2.2.2.2.1 == 1 then (Option.bind (withinG (IntKind.i64.wrap (y.1.2.1 - 1), 0, IntKind.i64.wrap (y.1.1 - 1))) fun (r3 : Bool) => (bif r3 then (Option.bind (withinG (y.1.2.2.1, 0, IntKind.i64.wrap (y.1.1 - 1))) fun (r4 : Bool) => (bif r4 then (bif decide (y.1.2.2.2.1 + 1 ≤ maxA) then (some (Sum.inl (((y.1.1, (y.1.2.1, (y.1.2.2.1, ((sub y.2.1 0 y.1.2.2.2.1 ++ [IntKind.i64.wrap (IntKind.i64.wrap (y.1.2.1 - 1) + IntKind.i64.wrap (y.1.1 * y.1.2.2.1))]).length, (IntKind.i64.wrap (y.1.2.2.2.2.1 + 1), ()))))), (sub y.2.1 0 y.1.2.2.2.1 ++ [IntKind.i64.wrap (IntKind.i64.wrap (y.1.2.1 - 1) + IntKind.i64.wrap (y.1.1 * y.1.2.2.1))], ()))))) else (none)) else (bif decide (y.1.2.2.2.1 + 1 ≤ maxA) then (some (Sum.inl (((y.1.1, (y.1.2.1, (y.1.2.2.1, ((sub y.2.1 0 y.1.2.2.2.1 ++ [-1]).length, (IntKind.i64.wrap (y.1.2.2.2.2.1 + 1), ()))))), (sub y.2.1 0 y.1.2.2.2.1 ++ [-1], ()))))) else (none)))) else (bif decide (y.1.2.2.2.1 + 1 ≤ maxA) then (some (Sum.inl (((y.1.1, (y.1.2.1, (y.1.2.2.1, ((sub y.2.1 0 y.1.2.2.2.1 ++ [-1]).length, (IntKind.i64.wrap (y.1.2.2.2.2.1 + 1), ()))))), (sub y.2.1 0 y.1.2.2.2.1 ++ [-1], ()))))) else (none)))) else (bif y.1.2.2.2.2.1 == 2 then (Option.bind (withinG (y.1.2.1, 0, IntKind.i64.wrap (y.1.1 - 1))) fun (r5 : Bool) => (bif r5 then (Option.bind (withinG (IntKind.i64.wrap (y.1.2.2.1 + 1), 0, IntKind.i64.wrap (y.1.1 - 1))) fun (r6 : Bool) => (bif r6 then (bif decide (y.1.2.2.2.1 + 1 ≤ maxA) then (some (Sum.inl (((y.1.1, (y.1.2.1, (y.1.2.2.1, ((sub y.2.1 0 y.1.2.2.2.1 ++ [IntKind.i64.wrap (y.1.2.1 + IntKind.i64.wrap (y.1.1 * IntKind.i64.wrap (y.1.2.2.1 + 1)))]).length, (IntKind.i64.wrap (y.1.2.2.2.2.1 + 1), ()))))), (sub y.2.1 0 y.1.2.2.2.1 ++ [IntKind.i64.wrap (y.1.2.1 + IntKind.i64.wrap (y.1.1 * IntKind.i64.wrap (y.1.2.2.1 + 1)))], ()))))) else (none)) else (bif decide (y.1.2.2.2.1 + 1 ≤ maxA) then (some (Sum.inl (((y.1.1, (y.1.2.1, (y.1.2.2.1, ((sub y.2.1 0 y.1.2.2.2.1 ++ [-1]).length, (IntKind.i64.wrap (y.1.2.2.2.2.1 + 1), ()))))), (sub y.2.1 0 y.1.2.2.2.1 ++ [-1], ()))))) else (none)))) else (bif decide (y.1.2.2.2.1 + 1 ≤ maxA) then (some (Sum.inl (((y.1.1, (y.1.2.1, (y.1.2.2.1, ((sub y.2.1 0 y.1.2.2.2.1 ++ [-1]).length, (IntKind.i64.wrap (y.1.2.2.2.2.1 + 1), ()))))), (sub y.2.1 0 y.1.2.2.2.1 ++ [-1], ()))))) else (none)))) else (bif y.1.2.2.2.2.1 == 3 then (Option.bind (withinG (y.1.2.1, 0, IntKind.i64.wrap (y.1.1 - 1))) fun (r7 : Bool) => (bif r7 then (Option.bind (withinG (IntKind.i64.wrap (y.1.2.2.1 - 1), 0, IntKind.i64.wrap (y.1.1 - 1))) fun (r8 : Bool) => (bif r8 then (bif decide (y.1.2.2.2.1 + 1 ≤ maxA) then (some (Sum.inl (((y.1.1, (y.1.2.1, (y.1.2.2.1, ((sub y.2.1 0 y.1.2.2.2.1 ++ [IntKind.i64.wrap (y.1.2.1 + IntKind.i64.wrap (y.1.1 * IntKind.i64.wrap (y.1.2.2.1 - 1)))]).length, (IntKind.i64.wrap (y.1.2.2.2.2.1 + 1), ()))))), (sub y.2.1 0 y.1.2.2.2.1 ++ [IntKind.i64.wrap (y.1.2.1 + IntKind.i64.wrap (y.1.1 * IntKind.i64.wrap (y.1.2.2.1 - 1)))], ()))))) else (none)) else (bif decide (y.1.2.2.2.1 + 1 ≤ maxA) then (some (Sum.inl (((y.1.1, (y.1.2.1, (y.1.2.2.1, ((sub y.2.1 0 y.1.2.2.2.1 ++ [-1]).length, (IntKind.i64.wrap (y.1.2.2.2.2.1 + 1), ()))))), (sub y.2.1 0 y.1.2.2.2.1 ++ [-1], ()))))) else (none)))) else (bif decide (y.1.2.2.2.1 + 1 ≤ maxA) then (some (Sum.inl (((y.1.1, (y.1.2.1, (y.1.2.2.1, ((sub y.2.1 0 y.1.2.2.2.1 ++ [-1]).length, (IntKind.i64.wrap (y.1.2.2.2.2.1 + 1), ()))))), (sub y.2.1 0 y.1.2.2.2.1 ++ [-1], ()))))) else (none)))) else (bif y.1.2.2.2.2.1 == 4 then (Option.bind (withinG (IntKind.i64.wrap (y.1.2.1 + 1), 0, IntKind.i64.wrap (y.1.1 - 1))) fun (r9 : Bool) => (bif r9 then (Option.bind (withinG (IntKind.i64.wrap (y.1.2.2.1 - 1), 0, IntKind.i64.wrap (y.1.1 - 1))) fun (r10 : Bool) => (bif r10 then (bif decide (y.1.2.2.2.1 + 1 ≤ maxA) then (some (Sum.inl (((y.1.1, (y.1.2.1, (y.1.2.2.1, ((sub y.2.1 0 y.1.2.2.2.1 ++ [IntKind.i64.wrap (IntKind.i64.wrap (y.1.2.1 + 1) + IntKind.i64.wrap (y.1.1 * IntKind.i64.wrap (y.1.2.2.1 - 1)))]).length, (IntKind.i64.wrap (y.1.2.2.2.2.1 + 1), ()))))), (sub y.2.1 0 y.1.2.2.2.1 ++ [IntKind.i64.wrap (IntKind.i64.wrap (y.1.2.1 + 1) + IntKind.i64.wrap (y.1.1 * IntKind.i64.wrap (y.1.2.2.1 - 1)))], ()))))) else (none)) else (bif decide (y.1.2.2.2.1 + 1 ≤ maxA) then (some (Sum.inl (((y.1.1, (y.1.2.1, (y.1.2.2.1, ((sub y.2.1 0 y.1.2.2.2.1 ++ [-1]).length, (IntKind.i64.wrap (y.1.2.2.2.2.1 + 1), ()))))), (sub y.2.1 0 y.1.2.2.2.1 ++ [-1], ()))))) else (none)))) else (bif decide (y.1.2.2.2.1 + 1 ≤ maxA) then (some (Sum.inl (((y.1.1, (y.1.2.1, (y.1.2.2.1, ((sub y.2.1 0 y.1.2.2.2.1 ++ [-1]).length, (IntKind.i64.wrap (y.1.2.2.2.2.1 + 1), ()))))), (sub y.2.1 0 y.1.2.2.2.1 ++ [-1], ()))))) else (none)))) else (Option.bind (withinG (IntKind.i64.wrap (y.1.2.1 - 1), 0, IntKind.i64.wrap (y.1.1 - 1))) fun (r11 : Bool) => (bif r11 then (Option.bind (withinG (IntKind.i64.wrap (y.1.2.2.1 + 1), 0, IntKind.i64.wrap (y.1.1 - 1))) fun (r12 : Bool) => (bif r12 then (bif decide (y.1.2.2.2.1 + 1 ≤ maxA) then (some (Sum.inl (((y.1.1, (y.1.2.1, (y.1.2.2.1, ((sub y.2.1 0 y.1.2.2.2.1 ++ [IntKind.i64.wrap (IntKind.i64.wrap (y.1.2.1 - 1) + IntKind.i64.wrap (y.1.1 * IntKind.i64.wrap (y.1.2.2.1 + 1)))]).length, (IntKind.i64.wrap (y.1.2.2.2.2.1 + 1), ()))))), (sub y.2.1 0 y.1.2.2.2.1 ++ [IntKind.i64.wrap (IntKind.i64.wrap (y.1.2.1 - 1) + IntKind.i64.wrap (y.1.1 * IntKind.i64.wrap (y.1.2.2.1 + 1)))], ()))))) else (none)) else (bif decide (y.1.2.2.2.1 + 1 ≤ maxA) then (some (Sum.inl (((y.1.1, (y.1.2.1, (y.1.2.2.1, ((sub y.2.1 0 y.1.2.2.2.1 ++ [-1]).length, (IntKind.i64.wrap (y.1.2.2.2.2.1 + 1), ()))))), (sub y.2.1 0 y.1.2.2.2.1 ++ [-1], ()))))) else (none)))) else (bif decide (y.1.2.2.2.1 + 1 ≤ maxA) then (some (Sum.inl (((y.1.1, (y.1.2.1, (y.1.2.2.1, ((sub y.2.1 0 y.1.2.2.2.1 ++ [-1]).length, (IntKind.i64.wrap (y.1.2.2.2.2.1 + 1), ()))))), (sub y.2.1 0 y.1.2.2.2.1 ++ [-1], ()))))) else (none))))))))) else (some (Sum.inr (((y.1.2.2.2.1, ()), (y.2.1, ())))))
noncomputable def ss_nearF : List (Nat × FSpec) := [(77, withinS)]
theorem ssOk_nearF : FTolds Try.prog ss_nearF := ⟨s_l00In, trivial⟩
noncomputable def Γ_nearF : Ctx := ctxOf Try.prog tys fs ss_nearF loops_nearF
noncomputable def d_nearF (n i : Int) : Option ((List Int)) := bif n != 0 then (bif n != 0 then (Option.bind (iter B_nearF_1 bigN (((n, (i.tmod n, (IntKind.i64.wrap (i.tdiv n), (0, (0, ()))))), ([], ())))) fun (r0 : ((Nat × Unit) × ((List Int) × Unit))) => (some (sub r0.2.1 0 r0.1.1))) else (none)) else (none)
theorem t_nearF (n i : Int) : (fnT Γ_nearF 10 175 [I64, I64] [L64] (n, i)).den = d_nearF n i := by kernel_rfl
theorem loop_near {n x y : Int} (h1 : 3 ≤ n) (h2 : n ≤ 16) (x0 : 0 ≤ x) (x1 : x < n) (y0 : 0 ≤ y) (y1 : y ≤ 1024) : iter B_nearF_1 bigN ((n, (x, (y, (0, (0, ()))))), ([], ())) = some ((6, ()), (nearL n x y, ())) :=
  iter_for (B := B_nearF_1) (fun k => ((n, (x, (y, (((nearL n x y).take k).length, ((k : Int), ()))))), ((nearL n x y).take k, ()))) 0 6 ((6, ()), (nearL n x y, ())) (Nat.zero_le _) (by decide) (fun k _ hk => by
    have hn1 : IntKind.i64.wrap (n - 1) = n - 1 := wrap64 (by omega) (by omega)
    have hc : k = 0 ∨ k = 1 ∨ k = 2 ∨ k = 3 ∨ k = 4 ∨ k = 5 := by omega
    rcases hc with rfl | rfl | rfl | rfl | rfl | rfl
    · have nb : -17000 ≤ n * y ∧ n * y ≤ 17000 := nb_of (y) (by omega) (by omega) h1 h2
      have st := near_step n x y (x + 1) (y) 0 (1, 0) rfl (by omega) (by omega)
      have hl : (List.take 0 (nearL n x y)).length = 0 := rfl
      unfold B_nearF_1
      simp only [show decide (((0 : Nat) : Int) < 6) = true from rfl, show (((0 : Nat) : Int) == 0) = true from rfl, cond_true, cond_false, withinG, Option.bind_some, hl, maxA_one (show 0 < 2 ^ 30 by decide), show sub (List.take 0 (nearL n x y)) 0 0 = List.take 0 (nearL n x y) from sub_all _, wrap64 (n := x + 1) (by omega) (by omega), wrap64 (n := n * y) (by omega) (by omega), wrap64 (n := x + 1 + n * y) (by omega) (by omega), hn1, inc64 (show 0 < 6 by decide) (show 6 < 2 ^ 62 by decide), st]
      unfold insB
      cases (decide (0 ≤ x + 1) && decide (x + 1 ≤ n - 1)) <;> cases (decide (0 ≤ y) && decide (y ≤ n - 1)) <;> rfl
    · have nb : -17000 ≤ n * y ∧ n * y ≤ 17000 := nb_of (y) (by omega) (by omega) h1 h2
      have st := near_step n x y (x - 1) (y) 1 (-1, 0) rfl (by omega) (by omega)
      have hl : (List.take 1 (nearL n x y)).length = 1 := rfl
      unfold B_nearF_1
      simp only [show decide (((1 : Nat) : Int) < 6) = true from rfl, show (((1 : Nat) : Int) == 0) = false from rfl, show (((1 : Nat) : Int) == 1) = true from rfl, cond_true, cond_false, withinG, Option.bind_some, hl, maxA_one (show 1 < 2 ^ 30 by decide), show sub (List.take 1 (nearL n x y)) 0 1 = List.take 1 (nearL n x y) from sub_all _, wrap64 (n := x - 1) (by omega) (by omega), wrap64 (n := n * y) (by omega) (by omega), wrap64 (n := x - 1 + n * y) (by omega) (by omega), hn1, inc64 (show 1 < 6 by decide) (show 6 < 2 ^ 62 by decide), st]
      unfold insB
      cases (decide (0 ≤ x - 1) && decide (x - 1 ≤ n - 1)) <;> cases (decide (0 ≤ y) && decide (y ≤ n - 1)) <;> rfl
    · have nb : -17000 ≤ n * (y + 1) ∧ n * (y + 1) ≤ 17000 := nb_of (y + 1) (by omega) (by omega) h1 h2
      have st := near_step n x y (x) (y + 1) 2 (0, 1) rfl (by omega) (by omega)
      have hl : (List.take 2 (nearL n x y)).length = 2 := rfl
      unfold B_nearF_1
      simp only [show decide (((2 : Nat) : Int) < 6) = true from rfl, show (((2 : Nat) : Int) == 0) = false from rfl, show (((2 : Nat) : Int) == 1) = false from rfl, show (((2 : Nat) : Int) == 2) = true from rfl, cond_true, cond_false, withinG, Option.bind_some, hl, maxA_one (show 2 < 2 ^ 30 by decide), show sub (List.take 2 (nearL n x y)) 0 2 = List.take 2 (nearL n x y) from sub_all _, wrap64 (n := y + 1) (by omega) (by omega), wrap64 (n := n * (y + 1)) (by omega) (by omega), wrap64 (n := x + n * (y + 1)) (by omega) (by omega), hn1, inc64 (show 2 < 6 by decide) (show 6 < 2 ^ 62 by decide), st]
      unfold insB
      cases (decide (0 ≤ x) && decide (x ≤ n - 1)) <;> cases (decide (0 ≤ y + 1) && decide (y + 1 ≤ n - 1)) <;> rfl
    · have nb : -17000 ≤ n * (y - 1) ∧ n * (y - 1) ≤ 17000 := nb_of (y - 1) (by omega) (by omega) h1 h2
      have st := near_step n x y (x) (y - 1) 3 (0, -1) rfl (by omega) (by omega)
      have hl : (List.take 3 (nearL n x y)).length = 3 := rfl
      unfold B_nearF_1
      simp only [show decide (((3 : Nat) : Int) < 6) = true from rfl, show (((3 : Nat) : Int) == 0) = false from rfl, show (((3 : Nat) : Int) == 1) = false from rfl, show (((3 : Nat) : Int) == 2) = false from rfl, show (((3 : Nat) : Int) == 3) = true from rfl, cond_true, cond_false, withinG, Option.bind_some, hl, maxA_one (show 3 < 2 ^ 30 by decide), show sub (List.take 3 (nearL n x y)) 0 3 = List.take 3 (nearL n x y) from sub_all _, wrap64 (n := y - 1) (by omega) (by omega), wrap64 (n := n * (y - 1)) (by omega) (by omega), wrap64 (n := x + n * (y - 1)) (by omega) (by omega), hn1, inc64 (show 3 < 6 by decide) (show 6 < 2 ^ 62 by decide), st]
      unfold insB
      cases (decide (0 ≤ x) && decide (x ≤ n - 1)) <;> cases (decide (0 ≤ y - 1) && decide (y - 1 ≤ n - 1)) <;> rfl
    · have nb : -17000 ≤ n * (y - 1) ∧ n * (y - 1) ≤ 17000 := nb_of (y - 1) (by omega) (by omega) h1 h2
      have st := near_step n x y (x + 1) (y - 1) 4 (1, -1) rfl (by omega) (by omega)
      have hl : (List.take 4 (nearL n x y)).length = 4 := rfl
      unfold B_nearF_1
      simp only [show decide (((4 : Nat) : Int) < 6) = true from rfl, show (((4 : Nat) : Int) == 0) = false from rfl, show (((4 : Nat) : Int) == 1) = false from rfl, show (((4 : Nat) : Int) == 2) = false from rfl, show (((4 : Nat) : Int) == 3) = false from rfl, show (((4 : Nat) : Int) == 4) = true from rfl, cond_true, cond_false, withinG, Option.bind_some, hl, maxA_one (show 4 < 2 ^ 30 by decide), show sub (List.take 4 (nearL n x y)) 0 4 = List.take 4 (nearL n x y) from sub_all _, wrap64 (n := x + 1) (by omega) (by omega), wrap64 (n := y - 1) (by omega) (by omega), wrap64 (n := n * (y - 1)) (by omega) (by omega), wrap64 (n := x + 1 + n * (y - 1)) (by omega) (by omega), hn1, inc64 (show 4 < 6 by decide) (show 6 < 2 ^ 62 by decide), st]
      unfold insB
      cases (decide (0 ≤ x + 1) && decide (x + 1 ≤ n - 1)) <;> cases (decide (0 ≤ y - 1) && decide (y - 1 ≤ n - 1)) <;> rfl
    · have nb : -17000 ≤ n * (y + 1) ∧ n * (y + 1) ≤ 17000 := nb_of (y + 1) (by omega) (by omega) h1 h2
      have st := near_step n x y (x - 1) (y + 1) 5 (-1, 1) rfl (by omega) (by omega)
      have hl : (List.take 5 (nearL n x y)).length = 5 := rfl
      unfold B_nearF_1
      simp only [show decide (((5 : Nat) : Int) < 6) = true from rfl, show (((5 : Nat) : Int) == 0) = false from rfl, show (((5 : Nat) : Int) == 1) = false from rfl, show (((5 : Nat) : Int) == 2) = false from rfl, show (((5 : Nat) : Int) == 3) = false from rfl, show (((5 : Nat) : Int) == 4) = false from rfl, cond_true, cond_false, withinG, Option.bind_some, hl, maxA_one (show 5 < 2 ^ 30 by decide), show sub (List.take 5 (nearL n x y)) 0 5 = List.take 5 (nearL n x y) from sub_all _, wrap64 (n := x - 1) (by omega) (by omega), wrap64 (n := y + 1) (by omega) (by omega), wrap64 (n := n * (y + 1)) (by omega) (by omega), wrap64 (n := x - 1 + n * (y + 1)) (by omega) (by omega), hn1, inc64 (show 5 < 6 by decide) (show 6 < 2 ^ 62 by decide), st]
      unfold insB
      cases (decide (0 ≤ x - 1) && decide (x - 1 ≤ n - 1)) <;> cases (decide (0 ≤ y + 1) && decide (y + 1 ≤ n - 1)) <;> rfl) rfl
theorem p_nearF (n i : Int) (r : (List Int)) (h : nearG (n, i) = some r) : d_nearF n i = some r := by
  obtain ⟨⟨h1, h2, h3, h4⟩, rfl⟩ := if_some (show (if 3 ≤ n ∧ n ≤ 16 ∧ 0 ≤ i ∧ i < 2 ^ 10 then some (nearL n (i % n) (i / n)) else none) = some r from h)
  have e1 : (n != 0) = true := by simp; omega
  have d0 : 0 ≤ i / n := Int.ediv_nonneg h3 (by omega)
  have d1 : i / n ≤ i := Int.ediv_le_self n h3
  have d2 := Int.emod_nonneg i (show n ≠ 0 by omega)
  have d3 := Int.emod_lt_of_pos i (show 0 < n by omega)
  unfold d_nearF
  simp only [e1, cond_true]
  rw [Int.tmod_eq_emod_of_nonneg h3, Int.tdiv_eq_ediv_of_nonneg h3, wrap64 (n := i / n) (by omega) (by omega)]
  refine (congrArg (fun z => Option.bind z _) (show iter B_nearF_1 bigN _ = _ from loop_near h1 h2 d2 d3 d0 (by omega))).trans ?_
  rfl
theorem s_nearF : FTold Try.prog 175 nearS := walkedF (fs := fs) (ss := ss_nearF) (loop := loops_nearF) tysOk mixed fnsOk ssOk_nearF 10 175 [I64, I64] [L64] rfl _ fun (n, i) r h => (t_nearF n i).trans (p_nearF n i r h)
theorem inB_int {k : Int} {n : Nat} (h0 : 0 ≤ k) (h1 : k < n) : inB k n = true := by
  unfold inB
  rw [decide_eq_true h0, decide_eq_true h1]; rfl
def rdyB (sv : LS) (ks : LI) : Bool := ks.any fun k => decide (0 ≤ k) && fge (sv.getD k.toNat dN) (Fl.of .f32 1065353216)
def rdyF (sd : Int) (sv : LS) (i : Nat) : Bool := fge (sv.getD i dN) (Fl.of .f32 1065353216) || rdyB sv (nearL sd ((i : Int) % sd) ((i : Int) / sd))
def szK (x : FlT) : Prop := (3 ≤ x.1 ∧ x.1 ≤ 16) ∧ (x.2.length : Int) = x.1 * x.1
instance (x : FlT) : Decidable (szK x) := by unfold szK; exact inferInstance
def rdyPG (x : FlT × Int) : Option Bool := if szK x.1 ∧ 0 ≤ x.2 ∧ x.2 < x.1.2.length then some (rdyF x.1.1 x.1.2 x.2.toNat) else none
def rdyPS : FSpec := ⟨[.ptr FlD, I64], [.bool], rdyPG⟩
theorem sq_b {n : Int} (h1 : 3 ≤ n) (h2 : n ≤ 16) : 9 ≤ n * n ∧ n * n ≤ 256 := by
  have a : n * n ≤ 16 * n := Int.mul_le_mul_of_nonneg_right h2 (by omega)
  have b : 3 * n ≤ n * n := Int.mul_le_mul_of_nonneg_right h1 (by omega)
  omega
theorem nearV_in {n x y : Int} (h1 : 3 ≤ n) (d : Int × Int) (h : 0 ≤ nearV n x y d) : nearV n x y d < n * n ∧ insB n (x + d.1) (y + d.2) = true := by
  unfold nearV at h ⊢
  cases hb : insB n (x + d.1) (y + d.2) with
  | false => rw [hb, cond_false] at h; exact absurd h (by decide)
  | true =>
    refine ⟨?_, rfl⟩
    rw [cond_true]
    unfold insB at hb
    simp only [Bool.and_eq_true, decide_eq_true_iff] at hb
    obtain ⟨⟨u0, u1⟩, v0, v1⟩ := hb
    have : n * (y + d.2) ≤ n * (n - 1) := Int.mul_le_mul_of_nonneg_left v1 (by omega)
    rw [Int.mul_sub, Int.mul_one] at this
    omega
theorem near_in {n x y : Int} (h1 : 3 ≤ n) {k : Nat} (hk : k < 6) (h : 0 ≤ (nearL n x y).getD k 0) : (nearL n x y).getD k 0 < n * n := by
  have hl : k < dirs.length := hk
  have e : (nearL n x y).getD k 0 = nearV n x y dirs[k] := by
    unfold nearL
    rw [List.getD_eq_getElem?_getD, List.getElem?_map, List.getElem?_eq_getElem hl]; rfl
  rw [e] at h ⊢
  exact (nearV_in h1 _ h).1
theorem any_first {ρ : Type} (ks : LI) (p : Int → Bool) (r : ρ) : ((firstOf (fun i => if (!p (ks.getD i 0)) = true then none else some r) ks.length 0) = none ∧ ks.any p = false) ∨ ((firstOf (fun i => if (!p (ks.getD i 0)) = true then none else some r) ks.length 0) = some r ∧ ks.any p = true) := by
  rcases firstOf_const (fun i => !p (ks.getD i 0)) r ks.length 0 with ⟨q, hall⟩ | ⟨q, j, _, hj, hbad⟩
  · refine .inl ⟨q, ?_⟩
    rw [List.any_eq_false]
    intro x hx
    obtain ⟨j, hj, rfl⟩ := List.getElem_of_mem hx
    have := hall j (Nat.zero_le _) (by omega)
    rw [List.getD_eq_getElem?_getD, List.getElem?_eq_getElem hj] at this
    simpa using this
  · refine .inr ⟨q, ?_⟩
    have hj' : j < ks.length := by omega
    rw [List.any_eq_true]
    refine ⟨ks[j], List.getElem_mem _, ?_⟩
    rw [List.getD_eq_getElem?_getD, List.getElem?_eq_getElem hj'] at hbad
    simpa using hbad
def L_rdyS_1 : LSpec := ⟨[0, 5, 6], ⟨Shs.at 43 [(0, (.ptr 2 0 0)), (5, (.slc 2146435392)), (6, (.int IntKind.i64))], [(2, (.vals false (.cons (.int IntKind.i64) (.cons (.slc 3) .nil)))), (3, (.arr false (EK.flt FloatKind.f32))), (2146435392, (.arr true (EK.int IntKind.i64)))]⟩, [⟨.ret, [4], ⟨Shs.at 43 [(4, .bool)], [(2, (.vals false (.cons (.int IntKind.i64) (.cons (.slc 3) .nil)))), (3, (.arr false (EK.flt FloatKind.f32)))]⟩⟩, ⟨.ext 0, [], ⟨Shs.at 43 [], [(2, (.vals false (.cons (.int IntKind.i64) (.cons (.slc 3) .nil)))), (3, (.arr false (EK.flt FloatKind.f32)))]⟩⟩], fun _ => bigN⟩
def loops_rdyS (f k n : Nat) : Option LSpec := bif (Nat.beq f 174 && Nat.beq k 5 && Nat.beq n 1) then some L_rdyS_1 else none
abbrev S_rdyS_1 : Type := ((Nat × (Int × Unit)) × ((Int × (Nat × Unit)) × ((List (Fl .f32)) × ((List Int) × Unit))))
abbrev R_rdyS_1 : Type := (((Bool × Unit) × ((Int × (Nat × Unit)) × ((List (Fl .f32)) × Unit))) ⊕ (Unit × ((Int × (Nat × Unit)) × ((List (Fl .f32)) × Unit))))
noncomputable def B_rdyS_1 (y : S_rdyS_1) : Option (S_rdyS_1 ⊕ R_rdyS_1) := bif decide (y.1.2.1 < 6) then (bif inB y.1.2.1 y.1.1 then (bif decide (List.getD y.2.2.2.1 (0 + Int.toNat y.1.2.1) (0 : Int) ≥ 0) then (bif inB y.1.2.1 y.1.1 then (bif inB (List.getD y.2.2.2.1 (0 + Int.toNat y.1.2.1) (0 : Int)) y.2.1.2.1 then (bif fge (List.getD y.2.2.1 (0 + Int.toNat (List.getD y.2.2.2.1 (0 + Int.toNat y.1.2.1) (0 : Int))) dN) (Fl.of .f32 1065353216) then (some (Sum.inr (Sum.inl (((true, ()), ((y.2.1.1, (y.2.1.2.1, ())), (y.2.2.1, ()))))))) else (some (Sum.inl (((y.1.1, (IntKind.i64.wrap (y.1.2.1 + 1), ())), ((y.2.1.1, (y.2.1.2.1, ())), (y.2.2.1, (y.2.2.2.1, ())))))))) else (none)) else (none)) else (some (Sum.inl (((y.1.1, (IntKind.i64.wrap (y.1.2.1 + 1), ())), ((y.2.1.1, (y.2.1.2.1, ())), (y.2.2.1, (y.2.2.2.1, ())))))))) else (none)) else (some (Sum.inr (Sum.inr (((), ((y.2.1.1, (y.2.1.2.1, ())), (y.2.2.1, ())))))))
noncomputable def ss_rdyS : List (Nat × FSpec) := [(175, nearS)]
theorem ssOk_rdyS : FTolds Try.prog ss_rdyS := ⟨s_nearF, trivial⟩
noncomputable def Γ_rdyS : Ctx := ctxOf Try.prog tys fs ss_rdyS loops_rdyS
noncomputable def d_rdyS (sd : Int) (sv : LS) (i : Int) : Option (Bool) := bif inB i (List.length sv) then (bif fge (List.getD sv (0 + i.toNat) dN) (Fl.of .f32 1065353216) then (some (true)) else (Option.bind (nearG (sd, i)) fun (r0 : (List Int)) => (Option.bind (iter B_rdyS_1 bigN (((List.length r0, (0, ())), ((sd, (List.length sv, ())), (sv, (r0, ())))))) fun (r1 : (((Bool × Unit) × ((Int × (Nat × Unit)) × ((List (Fl .f32)) × Unit))) ⊕ (Unit × ((Int × (Nat × Unit)) × ((List (Fl .f32)) × Unit))))) => (match r1 with | .inl x2 => (some (x2.1.1)) | .inr x2 => (some (false)))))) else (none)
theorem t_rdyS (sd : Int) (sv : LS) (i : Int) : (fnT Γ_rdyS 10 174 [.ptr FlD, I64] [.bool] ((sd, sv), i)).den = d_rdyS sd sv i := by kernel_rfl
theorem p_rdyS (sd : Int) (sv : LS) (i : Int) (r : Bool) (h : rdyPG ((sd, sv), i) = some r) : d_rdyS sd sv i = some r := by
  obtain ⟨⟨⟨⟨h1, h2⟩, hl⟩, h3, h4⟩, rfl⟩ := if_some (show (if szK (sd, sv) ∧ 0 ≤ i ∧ i < (sv.length : Int) then some (rdyF sd sv i.toNat) else none) = some r from h)
  have h1 : 3 ≤ sd := h1
  have h2 : sd ≤ 16 := h2
  have hl : (sv.length : Int) = sd * sd := hl
  have sq := sq_b h1 h2
  have k1 : nearG (sd, i) = some (nearL sd (i % sd) (i / sd)) := if_pos ⟨h1, h2, h3, by show i < 2 ^ 10; omega⟩
  unfold d_rdyS rdyF
  rw [Int.toNat_of_nonneg h3]
  simp only [inB_int h3 h4, cond_true, Nat.zero_add]
  cases hg : fge (sv.getD i.toNat dN) (Fl.of .f32 1065353216) with
  | true => rfl
  | false =>
    simp only [cond_false, k1, Option.bind_some, Bool.false_or]
    have key := iter_find' (B := B_rdyS_1) (fun k => ((6, ((k : Int), ())), ((sd, (sv.length, ())), (sv, (nearL sd (i % sd) (i / sd), ()))))) 0 6 (fun k => if (!(decide (0 ≤ (nearL sd (i % sd) (i / sd)).getD k 0) && fge (sv.getD ((nearL sd (i % sd) (i / sd)).getD k 0).toNat dN) (Fl.of .f32 1065353216))) = true then none else some (.inl ((true, ()), ((sd, (sv.length, ())), (sv, ()))))) (.inr ((), ((sd, (sv.length, ())), (sv, ())))) (Nat.zero_le _) (by decide) (fun k _ hk => by
      have ni := near_in (n := sd) (x := i % sd) (y := i / sd) h1 hk
      have e1 : decide ((k : Int) < 6) = true := decide_eq_true (by omega)
      unfold B_rdyS_1
      simp only [e1, inB_of hk, cond_true, Int.toNat_natCast, Nat.zero_add, inc64 hk (show 6 < 2 ^ 62 by decide)]
      by_cases c : 0 ≤ (nearL sd (i % sd) (i / sd)).getD k 0
      · have ni := ni c
        rw [decide_eq_true (show (nearL sd (i % sd) (i / sd)).getD k 0 ≥ 0 from c), inB_int c (show (nearL sd (i % sd) (i / sd)).getD k 0 < sv.length by omega)]
        cases fge (sv.getD ((nearL sd (i % sd) (i / sd)).getD k 0).toNat dN) (Fl.of .f32 1065353216) <;> rfl
      · rw [decide_eq_false (show ¬ (nearL sd (i % sd) (i / sd)).getD k 0 ≥ 0 from c)]
        rfl) (by
      unfold B_rdyS_1
      rfl)
    refine (congrArg (fun z => Option.bind z _) (show iter B_rdyS_1 bigN _ = _ from key)).trans ?_
    rcases any_first (nearL sd (i % sd) (i / sd)) (fun k => decide (0 ≤ k) && fge (sv.getD k.toNat dN) (Fl.of .f32 1065353216)) (.inl ((true, ()), ((sd, (sv.length, ())), (sv, ()))) : R_rdyS_1) with ⟨q, e⟩ | ⟨q, e⟩
    · have q : firstOf (fun k => if (!(decide (0 ≤ (nearL sd (i % sd) (i / sd)).getD k 0) && fge (sv.getD ((nearL sd (i % sd) (i / sd)).getD k 0).toNat dN) (Fl.of .f32 1065353216))) = true then none else some (.inl ((true, ()), ((sd, (sv.length, ())), (sv, ()))) : R_rdyS_1)) (6 - 0) 0 = none := q
      rw [q]
      unfold rdyB
      rw [e]; rfl
    · have q : firstOf (fun k => if (!(decide (0 ≤ (nearL sd (i % sd) (i / sd)).getD k 0) && fge (sv.getD ((nearL sd (i % sd) (i / sd)).getD k 0).toNat dN) (Fl.of .f32 1065353216))) = true then none else some (.inl ((true, ()), ((sd, (sv.length, ())), (sv, ()))) : R_rdyS_1)) (6 - 0) 0 = some (.inl ((true, ()), ((sd, (sv.length, ())), (sv, ()))) : R_rdyS_1) := q
      rw [q]
      unfold rdyB
      rw [e]; rfl
theorem s_rdyS : FTold Try.prog 174 rdyPS := walkedF (fs := fs) (ss := ss_rdyS) (loop := loops_rdyS) tysOk mixed fnsOk ssOk_rdyS 10 174 [.ptr FlD, I64] [.bool] rfl _ fun ((sd, sv), i) r h => (t_rdyS sd sv i).trans (p_rdyS sd sv i r h)
def wF (sd : Int) (sv : LS) (j : Nat) : Fl .f32 := bif rdyF sd sv j then Fl.of .f32 0 else sv.getD j dN
def rdL (sd : Int) (sv : LS) : List Bool := mapR (rdyF sd sv) sv.length
def wL (sd : Int) (sv : LS) : LS := mapR (wF sd sv) sv.length
def accN (w : LS) (ks : LI) : Nat → Fl .f32
  | 0 => Fl.of .f32 0
  | k + 1 => bif decide (0 ≤ ks.getD k 0) then fadd (accN w ks k) (w.getD (ks.getD k 0).toNat dN) else accN w ks k
def lackN (ks : LI) : Nat → Int
  | 0 => 0
  | k + 1 => bif decide (0 ≤ ks.getD k 0) then lackN ks k else lackN ks k + 1
theorem lack_b (ks : LI) : ∀ k : Nat, 0 ≤ lackN ks k ∧ lackN ks k ≤ k
  | 0 => ⟨Int.le_refl _, Int.le_refl _⟩
  | k + 1 => by
    have := lack_b ks k
    unfold lackN
    cases decide (0 ≤ ks.getD k 0)
    · exact ⟨by show 0 ≤ lackN ks k + 1; omega, by show lackN ks k + 1 ≤ _; omega⟩
    · exact ⟨this.1, by show lackN ks k ≤ _; omega⟩
def addR (m z : Fl .f32) : Nat → Fl .f32
  | 0 => m
  | r + 1 => fadd (addR m z r) z
def mixF (w : LS) (ks : LI) (z : Fl .f32) : Fl .f32 := addR (accN w ks 6) z (lackN ks 6).toNat
def stpV (sd : Int) (sv : LS) (a b : Fl .f32) (i : Nat) : Fl .f32 :=
  bif rdyF sd sv i then fadd (fadd (wF sd sv i) (fmul (fmul (Fl.of .f32 1056964608) a) (fsub (fdiv (mixF (wL sd sv) (nearL sd ((i : Int) % sd) ((i : Int) / sd)) (wF sd sv i)) (Fl.of .f32 1086324736)) (wF sd sv i)))) (fadd (sv.getD i dN) b)
  else fadd (wF sd sv i) (fmul (fmul (Fl.of .f32 1056964608) a) (fsub (fdiv (mixF (wL sd sv) (nearL sd ((i : Int) % sd) ((i : Int) / sd)) (wF sd sv i)) (Fl.of .f32 1086324736)) (wF sd sv i)))
def stpL (sd : Int) (sv : LS) (a b : Fl .f32) (n : Nat) : LS := mapR (stpV sd sv a b) n
def stepPG (x : FlT × Fl .f32 × Fl .f32) : Option FlT := if szK x.1 then some (x.1.1, stpL x.1.1 x.1.2 x.2.1 x.2.2 x.1.2.length) else none
def stepPS : FSpec := ⟨[.ptr FlD, F32, F32], [FlD], stepPG⟩
theorem near_len (n x y : Int) : (nearL n x y).length = 6 := rfl
def L_stepS_1 : LSpec := ⟨[0, 1, 2, 6, 7, 8, 9, 10], ⟨Shs.at 139 [(0, (.ptr 2 0 0)), (1, (.flt FloatKind.f32)), (2, (.flt FloatKind.f32)), (6, (.ptr 2146435392 0 0)), (7, (.int IntKind.i64)), (8, (.slc 2146435393)), (9, (.slc 2146435394)), (10, (.int IntKind.i64))], [(2, (.vals false (.cons (.int IntKind.i64) (.cons (.slc 3) .nil)))), (3, (.arr false (EK.flt FloatKind.f32))), (2146435392, (.vals true (.cons (.int IntKind.i64) (.cons (.slc 2146435395) .nil)))), (2146435393, (.arr true (EK.bool))), (2146435394, (.arr true (EK.flt FloatKind.f32))), (2146435395, (.arr true (EK.flt FloatKind.f32)))]⟩, [⟨.ext 0, [0, 1, 2, 6, 7, 8, 9], ⟨Shs.at 139 [(0, (.ptr 2 0 0)), (1, (.flt FloatKind.f32)), (2, (.flt FloatKind.f32)), (6, (.ptr 2146435392 0 0)), (7, (.int IntKind.i64)), (8, (.slc 2146435393)), (9, (.slc 2146435394))], [(2, (.vals false (.cons (.int IntKind.i64) (.cons (.slc 3) .nil)))), (3, (.arr false (EK.flt FloatKind.f32))), (2146435392, (.vals true (.cons (.int IntKind.i64) (.cons (.slc 2146435395) .nil)))), (2146435393, (.arr true (EK.bool))), (2146435394, (.arr true (EK.flt FloatKind.f32))), (2146435395, (.arr true (EK.flt FloatKind.f32)))]⟩⟩], fun _ => bigN⟩
def L_stepS_2 : LSpec := ⟨[0, 2, 6, 7, 8, 9, 11, 12, 13], ⟨Shs.at 139 [(0, (.ptr 2 0 0)), (2, (.flt FloatKind.f32)), (6, (.ptr 2146435904 0 0)), (7, (.int IntKind.i64)), (8, (.slc 2146435905)), (9, (.slc 2146435906)), (11, (.flt FloatKind.f32)), (12, (.ptr 2146435907 0 0)), (13, (.int IntKind.i64))], [(2, (.vals false (.cons (.int IntKind.i64) (.cons (.slc 3) .nil)))), (3, (.arr false (EK.flt FloatKind.f32))), (2146435904, (.vals true (.cons (.int IntKind.i64) (.cons (.slc 2146435908) .nil)))), (2146435905, (.arr true (EK.bool))), (2146435906, (.arr true (EK.flt FloatKind.f32))), (2146435907, (.vals true (.cons (.int IntKind.i64) (.cons (.slc 2146435909) .nil)))), (2146435908, (.arr true (EK.flt FloatKind.f32))), (2146435909, (.arr true (EK.flt FloatKind.f32)))]⟩, [⟨.ext 2, [6, 12], ⟨Shs.at 139 [(6, (.ptr 2146435904 0 0)), (12, (.ptr 2146435905 0 0))], [(2, (.vals false (.cons (.int IntKind.i64) (.cons (.slc 3) .nil)))), (3, (.arr false (EK.flt FloatKind.f32))), (2146435904, (.vals true (.cons (.int IntKind.i64) (.cons (.slc 2146435906) .nil)))), (2146435905, (.vals true (.cons (.int IntKind.i64) (.cons (.slc 2146435907) .nil)))), (2146435906, (.arr true (EK.flt FloatKind.f32))), (2146435907, (.arr true (EK.flt FloatKind.f32)))]⟩⟩], fun _ => bigN⟩
def L_stepS_3 : LSpec := ⟨[0, 2, 6, 7, 8, 9, 11, 12, 13, 14, 15, 16, 17], ⟨Shs.at 139 [(0, (.ptr 2 0 0)), (2, (.flt FloatKind.f32)), (6, (.ptr 2146436288 0 0)), (7, (.int IntKind.i64)), (8, (.slc 2146436289)), (9, (.slc 2146436290)), (11, (.flt FloatKind.f32)), (12, (.ptr 2146436291 0 0)), (13, (.int IntKind.i64)), (14, (.slc 2146436292)), (15, (.flt FloatKind.f32)), (16, (.int IntKind.i64)), (17, (.int IntKind.i64))], [(2, (.vals false (.cons (.int IntKind.i64) (.cons (.slc 3) .nil)))), (3, (.arr false (EK.flt FloatKind.f32))), (2146436288, (.vals true (.cons (.int IntKind.i64) (.cons (.slc 2146436293) .nil)))), (2146436289, (.arr true (EK.bool))), (2146436290, (.arr true (EK.flt FloatKind.f32))), (2146436291, (.vals true (.cons (.int IntKind.i64) (.cons (.slc 2146436294) .nil)))), (2146436292, (.arr true (EK.int IntKind.i64))), (2146436293, (.arr true (EK.flt FloatKind.f32))), (2146436294, (.arr true (EK.flt FloatKind.f32)))]⟩, [⟨.ext 4, [0, 2, 6, 7, 8, 9, 11, 12, 13, 15, 16], ⟨Shs.at 139 [(0, (.ptr 2 0 0)), (2, (.flt FloatKind.f32)), (6, (.ptr 2146436288 0 0)), (7, (.int IntKind.i64)), (8, (.slc 2146436289)), (9, (.slc 2146436290)), (11, (.flt FloatKind.f32)), (12, (.ptr 2146436291 0 0)), (13, (.int IntKind.i64)), (15, (.flt FloatKind.f32)), (16, (.int IntKind.i64))], [(2, (.vals false (.cons (.int IntKind.i64) (.cons (.slc 3) .nil)))), (3, (.arr false (EK.flt FloatKind.f32))), (2146436288, (.vals true (.cons (.int IntKind.i64) (.cons (.slc 2146436292) .nil)))), (2146436289, (.arr true (EK.bool))), (2146436290, (.arr true (EK.flt FloatKind.f32))), (2146436291, (.vals true (.cons (.int IntKind.i64) (.cons (.slc 2146436293) .nil)))), (2146436292, (.arr true (EK.flt FloatKind.f32))), (2146436293, (.arr true (EK.flt FloatKind.f32)))]⟩⟩], fun _ => bigN⟩
def L_stepS_4 : LSpec := ⟨[0, 2, 6, 7, 8, 9, 11, 12, 13, 15, 16], ⟨Shs.at 139 [(0, (.ptr 2 0 0)), (2, (.flt FloatKind.f32)), (6, (.ptr 2146436608 0 0)), (7, (.int IntKind.i64)), (8, (.slc 2146436609)), (9, (.slc 2146436610)), (11, (.flt FloatKind.f32)), (12, (.ptr 2146436611 0 0)), (13, (.int IntKind.i64)), (15, (.flt FloatKind.f32)), (16, (.int IntKind.i64))], [(2, (.vals false (.cons (.int IntKind.i64) (.cons (.slc 3) .nil)))), (3, (.arr false (EK.flt FloatKind.f32))), (2146436608, (.vals true (.cons (.int IntKind.i64) (.cons (.slc 2146436612) .nil)))), (2146436609, (.arr true (EK.bool))), (2146436610, (.arr true (EK.flt FloatKind.f32))), (2146436611, (.vals true (.cons (.int IntKind.i64) (.cons (.slc 2146436613) .nil)))), (2146436612, (.arr true (EK.flt FloatKind.f32))), (2146436613, (.arr true (EK.flt FloatKind.f32)))]⟩, [⟨.ext 6, [0, 2, 6, 7, 8, 9, 11, 12, 13, 15], ⟨Shs.at 139 [(0, (.ptr 2 0 0)), (2, (.flt FloatKind.f32)), (6, (.ptr 2146436608 0 0)), (7, (.int IntKind.i64)), (8, (.slc 2146436609)), (9, (.slc 2146436610)), (11, (.flt FloatKind.f32)), (12, (.ptr 2146436611 0 0)), (13, (.int IntKind.i64)), (15, (.flt FloatKind.f32))], [(2, (.vals false (.cons (.int IntKind.i64) (.cons (.slc 3) .nil)))), (3, (.arr false (EK.flt FloatKind.f32))), (2146436608, (.vals true (.cons (.int IntKind.i64) (.cons (.slc 2146436612) .nil)))), (2146436609, (.arr true (EK.bool))), (2146436610, (.arr true (EK.flt FloatKind.f32))), (2146436611, (.vals true (.cons (.int IntKind.i64) (.cons (.slc 2146436613) .nil)))), (2146436612, (.arr true (EK.flt FloatKind.f32))), (2146436613, (.arr true (EK.flt FloatKind.f32)))]⟩⟩], fun _ => bigN⟩
def loops_stepS (f k n : Nat) : Option LSpec := bif (Nat.beq f 118 && Nat.beq k 5 && Nat.beq n 1) then some L_stepS_1 else bif (Nat.beq f 118 && Nat.beq k 13 && Nat.beq n 1) then some L_stepS_2 else bif (Nat.beq f 118 && Nat.beq k 19 && Nat.beq n 1) then some L_stepS_3 else bif (Nat.beq f 118 && Nat.beq k 24 && Nat.beq n 1) then some L_stepS_4 else none
abbrev S_stepS_1 : Type := (((Fl .f32) × ((Fl .f32) × (Int × (Nat × (Nat × (Int × Unit)))))) × ((Int × (Nat × Unit)) × ((List (Fl .f32)) × ((Int × (Nat × Unit)) × ((List Bool) × ((List (Fl .f32)) × ((List (Fl .f32)) × Unit)))))))
abbrev R_stepS_1 : Type := (((Fl .f32) × ((Fl .f32) × (Int × (Nat × (Nat × Unit))))) × ((Int × (Nat × Unit)) × ((List (Fl .f32)) × ((Int × (Nat × Unit)) × ((List Bool) × ((List (Fl .f32)) × ((List (Fl .f32)) × Unit)))))))
noncomputable def B_stepS_1 (y : S_stepS_1) : Option (S_stepS_1 ⊕ R_stepS_1) := bif decide (y.1.2.2.2.2.2.1 < y.1.2.2.1) then (Option.bind (rdyPG ((y.2.1.1, sub y.2.2.1 0 y.2.1.2.1), y.1.2.2.2.2.2.1)) fun (r1 : Bool) => (bif inB y.1.2.2.2.2.2.1 y.1.2.2.2.1 then (bif inB y.1.2.2.2.2.2.1 y.1.2.2.2.1 then (bif !(List.set y.2.2.2.2.1 (0 + Int.toNat y.1.2.2.2.2.2.1) r1).getD (0 + Int.toNat y.1.2.2.2.2.2.1) EK.bool.dflt then (bif inB y.1.2.2.2.2.2.1 y.2.1.2.1 then (bif inB y.1.2.2.2.2.2.1 y.1.2.2.2.2.1 then (some (Sum.inl (((y.1.1, (y.1.2.1, (y.1.2.2.1, (y.1.2.2.2.1, (y.1.2.2.2.2.1, (IntKind.i64.wrap (y.1.2.2.2.2.2.1 + 1), ())))))), ((y.2.1.1, (y.2.1.2.1, ())), (y.2.2.1, ((y.2.2.2.1.1, (y.2.2.2.1.2.1, ())), (List.set y.2.2.2.2.1 (0 + Int.toNat y.1.2.2.2.2.2.1) r1, (List.set y.2.2.2.2.2.1 (0 + Int.toNat y.1.2.2.2.2.2.1) (List.getD y.2.2.1 (0 + Int.toNat y.1.2.2.2.2.2.1) dN), (y.2.2.2.2.2.2.1, ())))))))))) else (none)) else (none)) else (some (Sum.inl (((y.1.1, (y.1.2.1, (y.1.2.2.1, (y.1.2.2.2.1, (y.1.2.2.2.2.1, (IntKind.i64.wrap (y.1.2.2.2.2.2.1 + 1), ())))))), ((y.2.1.1, (y.2.1.2.1, ())), (y.2.2.1, ((y.2.2.2.1.1, (y.2.2.2.1.2.1, ())), (List.set y.2.2.2.2.1 (0 + Int.toNat y.1.2.2.2.2.2.1) r1, (y.2.2.2.2.2.1, (y.2.2.2.2.2.2.1, ()))))))))))) else (none)) else (none))) else (some (Sum.inr (((y.1.1, (y.1.2.1, (y.1.2.2.1, (y.1.2.2.2.1, (y.1.2.2.2.2.1, ()))))), ((y.2.1.1, (y.2.1.2.1, ())), (y.2.2.1, ((y.2.2.2.1.1, (y.2.2.2.1.2.1, ())), (y.2.2.2.2.1, (y.2.2.2.2.2.1, (y.2.2.2.2.2.2.1, ()))))))))))
abbrev S_stepS_3 : Type := (((Fl .f32) × (Int × (Nat × (Nat × ((Fl .f32) × (Int × (Nat × ((Fl .f32) × (Int × (Int × Unit)))))))))) × ((Int × (Nat × Unit)) × ((List (Fl .f32)) × ((Int × (Nat × Unit)) × ((List Bool) × ((List (Fl .f32)) × ((Int × (Nat × Unit)) × ((List Int) × ((List (Fl .f32)) × ((List (Fl .f32)) × Unit))))))))))
abbrev R_stepS_3 : Type := (((Fl .f32) × (Int × (Nat × (Nat × ((Fl .f32) × (Int × ((Fl .f32) × (Int × Unit)))))))) × ((Int × (Nat × Unit)) × ((List (Fl .f32)) × ((Int × (Nat × Unit)) × ((List Bool) × ((List (Fl .f32)) × ((Int × (Nat × Unit)) × ((List (Fl .f32)) × ((List (Fl .f32)) × Unit)))))))))
noncomputable def B_stepS_3 (y : S_stepS_3) : Option (S_stepS_3 ⊕ R_stepS_3) := bif decide (y.1.2.2.2.2.2.2.2.2.2.1 < 6) then (bif inB y.1.2.2.2.2.2.2.2.2.2.1 y.1.2.2.2.2.2.2.1 then (bif decide (List.getD y.2.2.2.2.2.2.2.1 (0 + Int.toNat y.1.2.2.2.2.2.2.2.2.2.1) (0 : Int) ≥ 0) then (bif inB y.1.2.2.2.2.2.2.2.2.2.1 y.1.2.2.2.2.2.2.1 then (bif inB (List.getD y.2.2.2.2.2.2.2.1 (0 + Int.toNat y.1.2.2.2.2.2.2.2.2.2.1) (0 : Int)) y.1.2.2.2.1 then (some (Sum.inl (((y.1.1, (y.1.2.1, (y.1.2.2.1, (y.1.2.2.2.1, (y.1.2.2.2.2.1, (y.1.2.2.2.2.2.1, (y.1.2.2.2.2.2.2.1, (fadd y.1.2.2.2.2.2.2.2.1 (List.getD y.2.2.2.2.2.1 (0 + Int.toNat (List.getD y.2.2.2.2.2.2.2.1 (0 + Int.toNat y.1.2.2.2.2.2.2.2.2.2.1) (0 : Int))) dN), (y.1.2.2.2.2.2.2.2.2.1, (IntKind.i64.wrap (y.1.2.2.2.2.2.2.2.2.2.1 + 1), ())))))))))), ((y.2.1.1, (y.2.1.2.1, ())), (y.2.2.1, ((y.2.2.2.1.1, (y.2.2.2.1.2.1, ())), (y.2.2.2.2.1, (y.2.2.2.2.2.1, ((y.2.2.2.2.2.2.1.1, (y.2.2.2.2.2.2.1.2.1, ())), (y.2.2.2.2.2.2.2.1, (y.2.2.2.2.2.2.2.2.1, (y.2.2.2.2.2.2.2.2.2.1, ()))))))))))))) else (none)) else (none)) else (some (Sum.inl (((y.1.1, (y.1.2.1, (y.1.2.2.1, (y.1.2.2.2.1, (y.1.2.2.2.2.1, (y.1.2.2.2.2.2.1, (y.1.2.2.2.2.2.2.1, (y.1.2.2.2.2.2.2.2.1, (IntKind.i64.wrap (y.1.2.2.2.2.2.2.2.2.1 + 1), (IntKind.i64.wrap (y.1.2.2.2.2.2.2.2.2.2.1 + 1), ())))))))))), ((y.2.1.1, (y.2.1.2.1, ())), (y.2.2.1, ((y.2.2.2.1.1, (y.2.2.2.1.2.1, ())), (y.2.2.2.2.1, (y.2.2.2.2.2.1, ((y.2.2.2.2.2.2.1.1, (y.2.2.2.2.2.2.1.2.1, ())), (y.2.2.2.2.2.2.2.1, (y.2.2.2.2.2.2.2.2.1, (y.2.2.2.2.2.2.2.2.2.1, ())))))))))))))) else (none)) else (some (Sum.inr (((y.1.1, (y.1.2.1, (y.1.2.2.1, (y.1.2.2.2.1, (y.1.2.2.2.2.1, (y.1.2.2.2.2.2.1, (y.1.2.2.2.2.2.2.2.1, (y.1.2.2.2.2.2.2.2.2.1, ())))))))), ((y.2.1.1, (y.2.1.2.1, ())), (y.2.2.1, ((y.2.2.2.1.1, (y.2.2.2.1.2.1, ())), (y.2.2.2.2.1, (y.2.2.2.2.2.1, ((y.2.2.2.2.2.2.1.1, (y.2.2.2.2.2.2.1.2.1, ())), (y.2.2.2.2.2.2.2.2.1, (y.2.2.2.2.2.2.2.2.2.1, ()))))))))))))
abbrev S_stepS_4 : Type := (((Fl .f32) × (Int × (Nat × (Nat × ((Fl .f32) × (Int × ((Fl .f32) × (Int × Unit)))))))) × ((Int × (Nat × Unit)) × ((List (Fl .f32)) × ((Int × (Nat × Unit)) × ((List Bool) × ((List (Fl .f32)) × ((Int × (Nat × Unit)) × ((List (Fl .f32)) × ((List (Fl .f32)) × Unit)))))))))
abbrev R_stepS_4 : Type := (((Fl .f32) × (Int × (Nat × (Nat × ((Fl .f32) × (Int × ((Fl .f32) × Unit))))))) × ((Int × (Nat × Unit)) × ((List (Fl .f32)) × ((Int × (Nat × Unit)) × ((List Bool) × ((List (Fl .f32)) × ((Int × (Nat × Unit)) × ((List (Fl .f32)) × ((List (Fl .f32)) × Unit)))))))))
noncomputable def B_stepS_4 (y : S_stepS_4) : Option (S_stepS_4 ⊕ R_stepS_4) := bif decide (y.1.2.2.2.2.2.2.2.1 > 0) then (bif inB y.1.2.2.2.2.2.1 y.1.2.2.2.1 then (some (Sum.inl (((y.1.1, (y.1.2.1, (y.1.2.2.1, (y.1.2.2.2.1, (y.1.2.2.2.2.1, (y.1.2.2.2.2.2.1, (fadd y.1.2.2.2.2.2.2.1 (List.getD y.2.2.2.2.2.1 (0 + Int.toNat y.1.2.2.2.2.2.1) dN), (IntKind.i64.wrap (y.1.2.2.2.2.2.2.2.1 - 1), ())))))))), ((y.2.1.1, (y.2.1.2.1, ())), (y.2.2.1, ((y.2.2.2.1.1, (y.2.2.2.1.2.1, ())), (y.2.2.2.2.1, (y.2.2.2.2.2.1, ((y.2.2.2.2.2.2.1.1, (y.2.2.2.2.2.2.1.2.1, ())), (y.2.2.2.2.2.2.2.1, (y.2.2.2.2.2.2.2.2.1, ())))))))))))) else (none)) else (some (Sum.inr (((y.1.1, (y.1.2.1, (y.1.2.2.1, (y.1.2.2.2.1, (y.1.2.2.2.2.1, (y.1.2.2.2.2.2.1, (y.1.2.2.2.2.2.2.1, ()))))))), ((y.2.1.1, (y.2.1.2.1, ())), (y.2.2.1, ((y.2.2.2.1.1, (y.2.2.2.1.2.1, ())), (y.2.2.2.2.1, (y.2.2.2.2.2.1, ((y.2.2.2.2.2.2.1.1, (y.2.2.2.2.2.2.1.2.1, ())), (y.2.2.2.2.2.2.2.1, (y.2.2.2.2.2.2.2.2.1, ()))))))))))))
abbrev S_stepS_2 : Type := (((Fl .f32) × (Int × (Nat × (Nat × ((Fl .f32) × (Int × Unit)))))) × ((Int × (Nat × Unit)) × ((List (Fl .f32)) × ((Int × (Nat × Unit)) × ((List Bool) × ((List (Fl .f32)) × ((Int × (Nat × Unit)) × ((List (Fl .f32)) × ((List (Fl .f32)) × Unit)))))))))
abbrev R_stepS_2 : Type := (Unit × ((Int × (Nat × Unit)) × ((List (Fl .f32)) × ((Int × (Nat × Unit)) × ((Int × (Nat × Unit)) × ((List (Fl .f32)) × ((List (Fl .f32)) × Unit)))))))
noncomputable def B_stepS_2 (y : S_stepS_2) : Option (S_stepS_2 ⊕ R_stepS_2) := bif decide (y.1.2.2.2.2.2.1 < y.1.2.1) then (Option.bind (nearG (y.2.1.1, y.1.2.2.2.2.2.1)) fun (r3 : (List Int)) => (Option.bind (iter B_stepS_3 bigN (((y.1.1, (y.1.2.1, (y.1.2.2.1, (y.1.2.2.2.1, (y.1.2.2.2.2.1, (y.1.2.2.2.2.2.1, (List.length r3, (Fl.of .f32 0, (0, (0, ())))))))))), ((y.2.1.1, (y.2.1.2.1, ())), (y.2.2.1, ((y.2.2.2.1.1, (y.2.2.2.1.2.1, ())), (y.2.2.2.2.1, (y.2.2.2.2.2.1, ((y.2.2.2.2.2.2.1.1, (y.2.2.2.2.2.2.1.2.1, ())), (r3, (y.2.2.2.2.2.2.2.1, (y.2.2.2.2.2.2.2.2.1, ())))))))))))) fun (r4 : (((Fl .f32) × (Int × (Nat × (Nat × ((Fl .f32) × (Int × ((Fl .f32) × (Int × Unit)))))))) × ((Int × (Nat × Unit)) × ((List (Fl .f32)) × ((Int × (Nat × Unit)) × ((List Bool) × ((List (Fl .f32)) × ((Int × (Nat × Unit)) × ((List (Fl .f32)) × ((List (Fl .f32)) × Unit)))))))))) => (Option.bind (iter B_stepS_4 bigN (((r4.1.1, (r4.1.2.1, (r4.1.2.2.1, (r4.1.2.2.2.1, (r4.1.2.2.2.2.1, (r4.1.2.2.2.2.2.1, (r4.1.2.2.2.2.2.2.1, (r4.1.2.2.2.2.2.2.2.1, ())))))))), ((r4.2.1.1, (r4.2.1.2.1, ())), (r4.2.2.1, ((r4.2.2.2.1.1, (r4.2.2.2.1.2.1, ())), (r4.2.2.2.2.1, (r4.2.2.2.2.2.1, ((r4.2.2.2.2.2.2.1.1, (r4.2.2.2.2.2.2.1.2.1, ())), (r4.2.2.2.2.2.2.2.1, (r4.2.2.2.2.2.2.2.2.1, ()))))))))))) fun (r5 : (((Fl .f32) × (Int × (Nat × (Nat × ((Fl .f32) × (Int × ((Fl .f32) × Unit))))))) × ((Int × (Nat × Unit)) × ((List (Fl .f32)) × ((Int × (Nat × Unit)) × ((List Bool) × ((List (Fl .f32)) × ((Int × (Nat × Unit)) × ((List (Fl .f32)) × ((List (Fl .f32)) × Unit)))))))))) => (bif inB r5.1.2.2.2.2.2.1 r5.1.2.2.2.1 then (bif inB r5.1.2.2.2.2.2.1 r5.1.2.2.2.1 then (bif inB r5.1.2.2.2.2.2.1 r5.1.2.2.1 then (bif List.getD r5.2.2.2.2.1 (0 + Int.toNat r5.1.2.2.2.2.2.1) EK.bool.dflt then (bif inB r5.1.2.2.2.2.2.1 r5.2.1.2.1 then (bif decide (r5.2.2.2.2.2.2.1.2.1 + 1 ≤ maxA) then (some (Sum.inl (((r5.1.1, (r5.1.2.1, (r5.1.2.2.1, (r5.1.2.2.2.1, (r5.1.2.2.2.2.1, (IntKind.i64.wrap (r5.1.2.2.2.2.2.1 + 1), ())))))), ((r5.2.1.1, (r5.2.1.2.1, ())), (r5.2.2.1, ((r5.2.2.2.1.1, (r5.2.2.2.1.2.1, ())), (r5.2.2.2.2.1, (r5.2.2.2.2.2.1, ((r5.2.2.2.2.2.2.1.1, ((sub r5.2.2.2.2.2.2.2.2.1 0 r5.2.2.2.2.2.2.1.2.1 ++ [fadd (fadd (List.getD r5.2.2.2.2.2.1 (0 + Int.toNat r5.1.2.2.2.2.2.1) dN) (fmul r5.1.2.2.2.2.1 (fsub (fdiv r5.1.2.2.2.2.2.2.1 (Fl.of .f32 1086324736)) (List.getD r5.2.2.2.2.2.1 (0 + Int.toNat r5.1.2.2.2.2.2.1) dN)))) (fadd (List.getD r5.2.2.1 (0 + Int.toNat r5.1.2.2.2.2.2.1) dN) r5.1.1)]).length, ())), (r5.2.2.2.2.2.2.2.1, (sub r5.2.2.2.2.2.2.2.2.1 0 r5.2.2.2.2.2.2.1.2.1 ++ [fadd (fadd (List.getD r5.2.2.2.2.2.1 (0 + Int.toNat r5.1.2.2.2.2.2.1) dN) (fmul r5.1.2.2.2.2.1 (fsub (fdiv r5.1.2.2.2.2.2.2.1 (Fl.of .f32 1086324736)) (List.getD r5.2.2.2.2.2.1 (0 + Int.toNat r5.1.2.2.2.2.2.1) dN)))) (fadd (List.getD r5.2.2.1 (0 + Int.toNat r5.1.2.2.2.2.2.1) dN) r5.1.1)], ())))))))))))) else (none)) else (none)) else (bif decide (r5.2.2.2.2.2.2.1.2.1 + 1 ≤ maxA) then (some (Sum.inl (((r5.1.1, (r5.1.2.1, (r5.1.2.2.1, (r5.1.2.2.2.1, (r5.1.2.2.2.2.1, (IntKind.i64.wrap (r5.1.2.2.2.2.2.1 + 1), ())))))), ((r5.2.1.1, (r5.2.1.2.1, ())), (r5.2.2.1, ((r5.2.2.2.1.1, (r5.2.2.2.1.2.1, ())), (r5.2.2.2.2.1, (r5.2.2.2.2.2.1, ((r5.2.2.2.2.2.2.1.1, ((sub r5.2.2.2.2.2.2.2.2.1 0 r5.2.2.2.2.2.2.1.2.1 ++ [fadd (List.getD r5.2.2.2.2.2.1 (0 + Int.toNat r5.1.2.2.2.2.2.1) dN) (fmul r5.1.2.2.2.2.1 (fsub (fdiv r5.1.2.2.2.2.2.2.1 (Fl.of .f32 1086324736)) (List.getD r5.2.2.2.2.2.1 (0 + Int.toNat r5.1.2.2.2.2.2.1) dN)))]).length, ())), (r5.2.2.2.2.2.2.2.1, (sub r5.2.2.2.2.2.2.2.2.1 0 r5.2.2.2.2.2.2.1.2.1 ++ [fadd (List.getD r5.2.2.2.2.2.1 (0 + Int.toNat r5.1.2.2.2.2.2.1) dN) (fmul r5.1.2.2.2.2.1 (fsub (fdiv r5.1.2.2.2.2.2.2.1 (Fl.of .f32 1086324736)) (List.getD r5.2.2.2.2.2.1 (0 + Int.toNat r5.1.2.2.2.2.2.1) dN)))], ())))))))))))) else (none))) else (none)) else (none)) else (none))))) else (some (Sum.inr (((), ((y.2.1.1, (y.2.1.2.1, ())), (y.2.2.1, ((y.2.2.2.1.1, (y.2.2.2.1.2.1, ())), ((y.2.2.2.2.2.2.1.1, (y.2.2.2.2.2.2.1.2.1, ())), (y.2.2.2.2.2.2.2.1, (y.2.2.2.2.2.2.2.2.1, ()))))))))))
noncomputable def ss_stepS : List (Nat × FSpec) := [(175, nearS), (174, rdyPS)]
theorem ssOk_stepS : FTolds Try.prog ss_stepS := ⟨s_nearF, s_rdyS, trivial⟩
noncomputable def Γ_stepS : Ctx := ctxOf Try.prog tys fs ss_stepS loops_stepS
noncomputable def d_stepS (sd : Int) (sv : LS) (a b : Fl .f32) : Option ((Int × (List (Fl .f32)))) := bif decide (0 ≤ ((List.length sv : Nat) : Int)) && decide ((1 : Int) * ((List.length sv : Nat) : Int) ≤ (140737488355328 : Int)) then (bif decide (0 ≤ ((List.length sv : Nat) : Int)) && decide ((4 : Int) * ((List.length sv : Nat) : Int) ≤ (140737488355328 : Int)) then (Option.bind (iter B_stepS_1 bigN (((a, (b, (((List.length sv : Nat) : Int), ((((List.length sv : Nat) : Int)).toNat, ((((List.length sv : Nat) : Int)).toNat, (0, ())))))), ((sd, (List.length sv, ())), (sv, ((0, (0, ())), (List.replicate (((List.length sv : Nat) : Int)).toNat false, (List.replicate (((List.length sv : Nat) : Int)).toNat (Fl.of .f32 0), ([], ()))))))))) fun (r0 : (((Fl .f32) × ((Fl .f32) × (Int × (Nat × (Nat × Unit))))) × ((Int × (Nat × Unit)) × ((List (Fl .f32)) × ((Int × (Nat × Unit)) × ((List Bool) × ((List (Fl .f32)) × ((List (Fl .f32)) × Unit)))))))) => (Option.bind (iter B_stepS_2 bigN (((r0.1.2.1, (r0.1.2.2.1, (r0.1.2.2.2.1, (r0.1.2.2.2.2.1, (fmul (Fl.of .f32 1056964608) r0.1.1, (0, ())))))), ((r0.2.1.1, (r0.2.1.2.1, ())), (r0.2.2.1, ((r0.2.2.2.1.1, (r0.2.2.2.1.2.1, ())), (r0.2.2.2.2.1, (r0.2.2.2.2.2.1, ((r0.2.1.1, (0, ())), (r0.2.2.2.2.2.2.1, ([], ()))))))))))) fun (r2 : (Unit × ((Int × (Nat × Unit)) × ((List (Fl .f32)) × ((Int × (Nat × Unit)) × ((Int × (Nat × Unit)) × ((List (Fl .f32)) × ((List (Fl .f32)) × Unit)))))))) => (some ((r2.2.2.2.2.1.1, sub r2.2.2.2.2.2.2.1 0 r2.2.2.2.2.1.2.1))))) else (none)) else (none)
theorem t_stepS (sd : Int) (sv : LS) (a b : Fl .f32) : (fnT Γ_stepS 10 118 [.ptr FlD, F32, F32] [FlD] ((sd, sv), a, b)).den = d_stepS sd sv a b := by kernel_rfl
abbrev kzz : Int × Nat × Unit := (0, (0, ()))
theorem loop_s3 {b hf : Fl .f32} {n i sd : Int} {lr len lo : Nat} {sv w out : LS} {rd : List Bool} {ks : LI} (hks : ∀ k, k < 6 → 0 ≤ ks.getD k 0 → ks.getD k 0 < (w.length : Int)) : iter B_stepS_3 bigN ((b, (n, (lr, (w.length, (hf, (i, (6, (Fl.of .f32 0, (0, (0, ())))))))))), ((sd, (len, ())), (sv, (kzz, (rd, (w, ((sd, (lo, ())), (ks, ([], (out, ())))))))))) = some ((b, (n, (lr, (w.length, (hf, (i, (accN w ks 6, (lackN ks 6, ())))))))), ((sd, (len, ())), (sv, (kzz, (rd, (w, ((sd, (lo, ())), ([], (out, ())))))))) ) :=
  iter_for (B := B_stepS_3) (fun k => ((b, (n, (lr, (w.length, (hf, (i, (6, (accN w ks k, (lackN ks k, ((k : Int), ())))))))))), ((sd, (len, ())), (sv, (kzz, (rd, (w, ((sd, (lo, ())), (ks, ([], (out, ()))))))))))) 0 6 _ (Nat.zero_le _) (by decide) (fun k _ hk => by
    have e1 : decide ((k : Int) < 6) = true := decide_eq_true (by omega)
    have lb := lack_b ks k
    have a1 : accN w ks (k + 1) = bif decide (0 ≤ ks.getD k 0) then fadd (accN w ks k) (w.getD (ks.getD k 0).toNat dN) else accN w ks k := rfl
    have l1 : lackN ks (k + 1) = bif decide (0 ≤ ks.getD k 0) then lackN ks k else lackN ks k + 1 := rfl
    rw [a1, l1]
    unfold B_stepS_3
    simp only [e1, cond_true, inB_of hk, Int.toNat_natCast, Nat.zero_add, inc64 hk (show 6 < 2 ^ 62 by decide)]
    by_cases c : 0 ≤ ks.getD k 0
    · rw [decide_eq_true c, inB_int c (hks k hk c)]
      rfl
    · rw [decide_eq_false c, wrap64 (n := lackN ks k + 1) (by omega) (by omega)]
      rfl) (by
    unfold B_stepS_3
    rfl)
theorem loop_s4 {b hf m : Fl .f32} {n sd L : Int} {i lr len lo : Nat} {sv w out : LS} {rd : List Bool} (hi : i < w.length) (h0 : 0 ≤ L) (h1 : L ≤ 6) : iter B_stepS_4 bigN ((b, (n, (lr, (w.length, (hf, ((i : Int), (m, (L, ())))))))), ((sd, (len, ())), (sv, (kzz, (rd, (w, ((sd, (lo, ())), ([], (out, ()))))))))) = some ((b, (n, (lr, (w.length, (hf, ((i : Int), (addR m (w.getD i dN) L.toNat, ()))))))), ((sd, (len, ())), (sv, (kzz, (rd, (w, ((sd, (lo, ())), ([], (out, ())))))))) ) := by
  have key := iter_for (B := B_stepS_4) (fun r => ((b, (n, (lr, (w.length, (hf, ((i : Int), (addR m (w.getD i dN) r, (L - (r : Int), ())))))))), ((sd, (len, ())), (sv, (kzz, (rd, (w, ((sd, (lo, ())), ([], (out, ())))))))))) 0 L.toNat ((b, (n, (lr, (w.length, (hf, ((i : Int), (addR m (w.getD i dN) L.toNat, ()))))))), ((sd, (len, ())), (sv, (kzz, (rd, (w, ((sd, (lo, ())), ([], (out, ())))))))) ) (Nat.zero_le _) (by omega) (fun r _ hr => by
    have e1 : decide (L - (r : Int) > 0) = true := decide_eq_true (by omega)
    unfold B_stepS_4
    simp only [e1, cond_true, inB_of hi, Int.toNat_natCast, Nat.zero_add, show L - (r : Int) - 1 = L - ((r + 1 : Nat) : Int) by omega, wrap64 (n := L - ((r + 1 : Nat) : Int)) (by omega) (by omega)]
    rfl) (by
    have e1 : decide (L - (L.toNat : Int) > 0) = false := decide_eq_false (by omega)
    unfold B_stepS_4
    simp only [e1, cond_false])
  rw [Int.natCast_zero, Int.sub_zero] at key
  exact key
theorem wL_len (sd : Int) (sv : LS) : (wL sd sv).length = sv.length := mapR_len _ _
theorem rdL_len (sd : Int) (sv : LS) : (rdL sd sv).length = sv.length := mapR_len _ _
theorem stpL_len (sd : Int) (sv : LS) (a b : Fl .f32) (n : Nat) : (stpL sd sv a b n).length = n := mapR_len _ _
theorem sub_stpL (sd : Int) (sv : LS) (a b : Fl .f32) (n : Nat) : sub (stpL sd sv a b n) 0 n = stpL sd sv a b n := by have := sub_all (stpL sd sv a b n); rw [stpL_len] at this; exact this
theorem stpL_succ (sd : Int) (sv : LS) (a b : Fl .f32) (n : Nat) : stpL sd sv a b n ++ [stpV sd sv a b n] = stpL sd sv a b (n + 1) := (mapR_succ _ _).symm
theorem set_getD {α : Type} (l : List α) (i : Nat) (a d : α) (h : i < l.length) : (l.set i a).getD i d = a := by
  rw [List.getD_eq_getElem?_getD, List.getElem?_set_self h]; rfl
theorem repl_getD {α : Type} (n i : Nat) (a d : α) (h : i < n) : (List.replicate n a).getD i d = a := by
  rw [List.getD_eq_getElem?_getD, List.getElem?_replicate, if_pos h]; rfl
theorem loop_s1 {sd : Int} {sv : LS} (a b : Fl .f32) (hk : szK (sd, sv)) : iter B_stepS_1 bigN ((a, (b, ((sv.length : Int), (sv.length, (sv.length, (0, ())))))), ((sd, (sv.length, ())), (sv, (kzz, (List.replicate sv.length false, (List.replicate sv.length (Fl.of .f32 0), ([], ()))))))) = some ((a, (b, ((sv.length : Int), (sv.length, (sv.length, ()))))), ((sd, (sv.length, ())), (sv, (kzz, (rdL sd sv, (wL sd sv, ([], ()))))))) := by
  have sq := sq_b hk.1.1 hk.1.2
  have hl : (sv.length : Int) = sd * sd := hk.2
  have sq : 9 ≤ sd * sd ∧ sd * sd ≤ 256 := sq
  have key := iter_for (B := B_stepS_1) (fun i => ((a, (b, ((sv.length : Int), (sv.length, (sv.length, ((i : Int), ())))))), ((sd, (sv.length, ())), (sv, (kzz, (newUp (rdyF sd sv) (List.replicate sv.length false) i, (newUp (wF sd sv) (List.replicate sv.length (Fl.of .f32 0)) i, ([], ())))))))) 0 sv.length ((a, (b, ((sv.length : Int), (sv.length, (sv.length, ()))))), ((sd, (sv.length, ())), (sv, (kzz, (rdL sd sv, (wL sd sv, ([], ()))))))) (Nat.zero_le _) (by omega) (fun i _ hi => by
    have k1 : rdyPG ((sd, sv), (i : Int)) = some (rdyF sd sv i) := (if_pos ⟨hk, by show 0 ≤ (i : Int); omega, by show (i : Int) < (sv.length : Int); omega⟩).trans (by rw [Int.toNat_natCast])
    have g1 : i < (List.replicate sv.length false).length := by rw [List.length_replicate]; exact hi
    have g2 : i < (List.replicate sv.length (Fl.of .f32 0)).length := by rw [List.length_replicate]; exact hi
    have g3 : i < (newUp (rdyF sd sv) (List.replicate sv.length false) i).length := by rw [newUp_len _ _ (Nat.le_of_lt g1)]; exact g1
    have n1 := newUp_succ (rdyF sd sv) (List.replicate sv.length false) g1
    have n2 := newUp_succ (wF sd sv) (List.replicate sv.length (Fl.of .f32 0)) g2
    unfold B_stepS_1
    simp only [ltT hi, cond_true, sub_all, k1, Option.bind_some, inB_of hi, Int.toNat_natCast, Nat.zero_add, inc64 hi (show sv.length < 2 ^ 62 by omega), set_getD _ _ _ _ g3, n1]
    cases hr : rdyF sd sv i with
    | true =>
      have n3 := newUp_same (wF sd sv) (List.replicate sv.length (Fl.of .f32 0)) dN g2 (by
        unfold wF
        rw [hr, repl_getD _ _ _ _ hi]; rfl)
      rw [← n3]
      rfl
    | false =>
      have hw : wF sd sv i = sv.getD i dN := by unfold wF; rw [hr]; rfl
      rw [← n2, hw]
      rfl) (by
    have m1 := newUp_end (rdyF sd sv) (List.replicate sv.length false)
    have m2 := newUp_end (wF sd sv) (List.replicate sv.length (Fl.of .f32 0))
    rw [List.length_replicate] at m1 m2
    unfold B_stepS_1
    simp only [ltF, cond_false, m1, m2]
    rfl)
  simp only [newUp_zero] at key
  exact key
theorem loop_s2 {sd : Int} {sv : LS} (a b : Fl .f32) (hk : szK (sd, sv)) : iter B_stepS_2 bigN ((b, ((sv.length : Int), (sv.length, (sv.length, (fmul (Fl.of .f32 1056964608) a, (0, ())))))), ((sd, (sv.length, ())), (sv, (kzz, (rdL sd sv, (wL sd sv, ((sd, (0, ())), ([], ([], ()))))))))) = some ((), ((sd, (sv.length, ())), (sv, (kzz, ((sd, (sv.length, ())), ([], (stpL sd sv a b sv.length, ()))))))) := by
  have sq := sq_b hk.1.1 hk.1.2
  have h1 : 3 ≤ sd := hk.1.1
  have h2 : sd ≤ 16 := hk.1.2
  have hl : (sv.length : Int) = sd * sd := hk.2
  have sq : 9 ≤ sd * sd ∧ sd * sd ≤ 256 := sq
  have key := iter_for (B := B_stepS_2) (fun i => ((b, ((sv.length : Int), (sv.length, (sv.length, (fmul (Fl.of .f32 1056964608) a, ((i : Int), ())))))), ((sd, (sv.length, ())), (sv, (kzz, (rdL sd sv, (wL sd sv, ((sd, (i, ())), ([], (stpL sd sv a b i, ())))))))))) 0 sv.length ((), ((sd, (sv.length, ())), (sv, (kzz, ((sd, (sv.length, ())), ([], (stpL sd sv a b sv.length, ()))))))) (Nat.zero_le _) (by omega) (fun i _ hi => by
    have k1 : nearG (sd, (i : Int)) = some (nearL sd ((i : Int) % sd) ((i : Int) / sd)) := if_pos ⟨h1, h2, by show 0 ≤ (i : Int); omega, by show (i : Int) < 2 ^ 10; omega⟩
    have hks : ∀ k, k < 6 → 0 ≤ (nearL sd ((i : Int) % sd) ((i : Int) / sd)).getD k 0 → (nearL sd ((i : Int) % sd) ((i : Int) / sd)).getD k 0 < ((wL sd sv).length : Int) := fun k hk' h0 => by
      have := near_in h1 hk' h0
      rw [wL_len]; omega
    have lb := lack_b (nearL sd ((i : Int) % sd) ((i : Int) / sd)) 6
    have k3 := loop_s3 (b := b) (hf := fmul (Fl.of .f32 1056964608) a) (n := (sv.length : Int)) (i := (i : Int)) (sd := sd) (lr := sv.length) (len := sv.length) (lo := i) (sv := sv) (w := wL sd sv) (out := stpL sd sv a b i) (rd := rdL sd sv) (ks := nearL sd ((i : Int) % sd) ((i : Int) / sd)) hks
    have k4 := loop_s4 (b := b) (hf := fmul (Fl.of .f32 1056964608) a) (m := accN (wL sd sv) (nearL sd ((i : Int) % sd) ((i : Int) / sd)) 6) (n := (sv.length : Int)) (sd := sd) (L := lackN (nearL sd ((i : Int) % sd) ((i : Int) / sd)) 6) (i := i) (lr := sv.length) (len := sv.length) (lo := i) (sv := sv) (w := wL sd sv) (out := stpL sd sv a b i) (rd := rdL sd sv) (by rw [wL_len]; exact hi) lb.1 (by omega)
    rw [wL_len] at k3 k4
    have gw : (wL sd sv).getD i dN = wF sd sv i := mapR_get _ _ hi
    have gr : (rdL sd sv).getD i false = rdyF sd sv i := mapR_get _ _ hi
    have mx : addR (accN (wL sd sv) (nearL sd ((i : Int) % sd) ((i : Int) / sd)) 6) (wF sd sv i) (lackN (nearL sd ((i : Int) % sd) ((i : Int) / sd)) 6).toNat = mixF (wL sd sv) (nearL sd ((i : Int) % sd) ((i : Int) / sd)) (wF sd sv i) := rfl
    rw [gw] at k4
    have sv1 : stpV sd sv a b i = bif rdyF sd sv i then fadd (fadd (wF sd sv i) (fmul (fmul (Fl.of .f32 1056964608) a) (fsub (fdiv (mixF (wL sd sv) (nearL sd ((i : Int) % sd) ((i : Int) / sd)) (wF sd sv i)) (Fl.of .f32 1086324736)) (wF sd sv i)))) (fadd (sv.getD i dN) b) else fadd (wF sd sv i) (fmul (fmul (Fl.of .f32 1056964608) a) (fsub (fdiv (mixF (wL sd sv) (nearL sd ((i : Int) % sd) ((i : Int) / sd)) (wF sd sv i)) (Fl.of .f32 1086324736)) (wF sd sv i))) := rfl
    have ss := stpL_succ sd sv a b i
    unfold B_stepS_2
    simp only [ltT hi, cond_true, k1, Option.bind_some, near_len]
    refine (congrArg (fun z => Option.bind z _) (show iter B_stepS_3 bigN _ = _ from k3)).trans ?_
    simp only [Option.bind_some]
    refine (congrArg (fun z => Option.bind z _) (show iter B_stepS_4 bigN _ = _ from k4)).trans ?_
    simp only [Option.bind_some, inB_of hi, cond_true, Int.toNat_natCast, Nat.zero_add, inc64 hi (show sv.length < 2 ^ 62 by omega), gw, mx, show EK.bool.dflt = false from rfl, gr, maxA_one (show i < 2 ^ 30 by omega), sub_stpL]
    cases hr : rdyF sd sv i with
    | true =>
      rw [hr, cond_true] at sv1
      simp only [cond_true]
      rw [← sv1, ss, stpL_len]
    | false =>
      rw [hr, cond_false] at sv1
      simp only [cond_false]
      rw [← sv1, ss, stpL_len]) (by
    unfold B_stepS_2
    simp only [ltF, cond_false])
  exact key
theorem p_stepS (sd : Int) (sv : LS) (a b : Fl .f32) (r : (Int × (List (Fl .f32)))) (h : stepPG ((sd, sv), a, b) = some r) : d_stepS sd sv a b = some r := by
  obtain ⟨hk, rfl⟩ := if_some (show (if szK (sd, sv) then some (sd, stpL sd sv a b sv.length) else none) = some r from h)
  have sq := sq_b hk.1.1 hk.1.2
  have hl : (sv.length : Int) = sd * sd := hk.2
  have sq : 9 ≤ sd * sd ∧ sd * sd ≤ 256 := sq
  have e1 : decide ((0 : Int) ≤ (sv.length : Int)) = true := decide_eq_true (by omega)
  have e2 : decide ((1 : Int) * (sv.length : Int) ≤ (140737488355328 : Int)) = true := decide_eq_true (by omega)
  have e3 : decide ((4 : Int) * (sv.length : Int) ≤ (140737488355328 : Int)) = true := decide_eq_true (by omega)
  unfold d_stepS
  simp only [e1, e2, e3, Bool.and_self, cond_true, Int.toNat_natCast]
  refine (congrArg (fun z => Option.bind z _) (show iter B_stepS_1 bigN _ = _ from loop_s1 a b hk)).trans ?_
  simp only [Option.bind_some]
  refine (congrArg (fun z => Option.bind z _) (show iter B_stepS_2 bigN _ = _ from loop_s2 a b hk)).trans ?_
  simp only [Option.bind_some, sub_stpL]
theorem s_stepS : FTold Try.prog 118 stepPS := walkedF (fs := fs) (ss := ss_stepS) (loop := loops_stepS) tysOk mixed fnsOk ssOk_stepS 10 118 [.ptr FlD, F32, F32] [FlD] rfl _ fun ((sd, sv), a, b) r h => (t_stepS sd sv a b).trans (p_stepS sd sv a b r h)
end Go.Proofs.Ytjggcekliaalgaa
