/- The program's NewtonCurve answers as the reference's does, at all arguments. No condition. -/
import Derived.Test.YtgmjoehnkannkaaK1
namespace Go.Proofs.Ytgmjoehnkannkaa
open Go.Ab
/-- the temps of a body that cools -/
def newt (a b c d : Fl .f32) : Nat → Fl .f32
  | 0 => a
  | k + 1 => fsub (newt a b c d k) (fmul (fmul c (fsub (newt a b c d k) b)) d)
def newtF (a b c d : Fl .f32) (n : Int) : LS × Bool := if 1 ≤ n ∧ n ≤ 128 then (if (mapR (newt a b c d) n.toNat).all fin = true then (mapR (newt a b c d) n.toNat, true) else ([], false)) else ([], false)
def newtG (x : Fl .f32 × Fl .f32 × Fl .f32 × Fl .f32 × Int) : Option (LS × Bool) := some (newtF x.1 x.2.1 x.2.2.1 x.2.2.2.1 x.2.2.2.2)
def newtS : FSpec := ⟨[F32, F32, F32, F32, I64], [L32, .bool], newtG⟩
theorem dec_in {n : Nat} (h1 : 1 ≤ (n : Int)) (h2 : (n : Int) ≤ 128) : (!(decide (1 ≤ (n : Int)) && decide ((n : Int) ≤ 128))) = false := by rw [decide_eq_true h1, decide_eq_true h2]; rfl
theorem dec_out {n : Int} (h : ¬ (1 ≤ n ∧ n ≤ 128)) : (!(decide (1 ≤ n) && decide (n ≤ 128))) = true := by
  by_cases h1 : 1 ≤ n
  · rw [decide_eq_false (show ¬ n ≤ 128 from fun h2 => h ⟨h1, h2⟩)]; simp
  · rw [decide_eq_false h1]; rfl
def L_newtonS_1 : LSpec := ⟨[1, 2, 3, 4, 12, 13, 14], ⟨Shs.at 43 [(1, (.flt FloatKind.f32)), (2, (.flt FloatKind.f32)), (3, (.flt FloatKind.f32)), (4, (.int IntKind.i64)), (12, (.slc 2146435456)), (13, (.flt FloatKind.f32)), (14, (.int IntKind.i64))], [(2146435456, (.arr true (EK.flt FloatKind.f32)))]⟩, [⟨.ext 0, [12], ⟨Shs.at 43 [(12, (.slc 2146435456))], [(2146435456, (.arr true (EK.flt FloatKind.f32)))]⟩⟩], fun _ => bigN⟩
def L_newtonS_2 : LSpec := ⟨[0, 6, 7], ⟨Shs.at 18 [(0, (.slc 2146435456)), (6, (.int IntKind.i64)), (7, (.int IntKind.i64))], [(2146435456, (.arr true (EK.flt FloatKind.f32)))]⟩, [⟨.ret, [2, 3], ⟨Shs.at 18 [(2, (.slc 1144607735936)), (3, .bool)], [(2146435456, (.arr true (EK.flt FloatKind.f32))), (1144607735936, (.arr true (EK.flt FloatKind.f32)))]⟩⟩, ⟨.ext 0, [0], ⟨Shs.at 18 [(0, (.slc 2146435456))], [(2146435456, (.arr true (EK.flt FloatKind.f32)))]⟩⟩], fun _ => bigN⟩
def loops_newtonS (f k n : Nat) : Option LSpec := bif (Nat.beq f 17 && Nat.beq k 6 && Nat.beq n 1) then some L_newtonS_1 else bif (Nat.beq f 53 && Nat.beq k 2 && Nat.beq n 1065) then some L_newtonS_2 else none
abbrev S_newtonS_1 : Type := (((Fl .f32) × ((Fl .f32) × ((Fl .f32) × (Int × (Nat × ((Fl .f32) × (Int × Unit))))))) × ((List (Fl .f32)) × Unit))
abbrev R_newtonS_1 : Type := ((Nat × Unit) × ((List (Fl .f32)) × Unit))
def B_newtonS_1 (y : S_newtonS_1) : Option (S_newtonS_1 ⊕ R_newtonS_1) := bif decide (y.1.2.2.2.2.2.2.1 < y.1.2.2.2.1) then (bif decide (y.1.2.2.2.2.1 + 1 ≤ maxA) then (some (Sum.inl (((y.1.1, (y.1.2.1, (y.1.2.2.1, (y.1.2.2.2.1, ((sub y.2.1 0 y.1.2.2.2.2.1 ++ [fsub y.1.2.2.2.2.2.1 (fmul (fmul y.1.2.1 (fsub y.1.2.2.2.2.2.1 y.1.1)) y.1.2.2.1)]).length, (fsub y.1.2.2.2.2.2.1 (fmul (fmul y.1.2.1 (fsub y.1.2.2.2.2.2.1 y.1.1)) y.1.2.2.1), (IntKind.i64.wrap (y.1.2.2.2.2.2.2.1 + 1), ()))))))), (sub y.2.1 0 y.1.2.2.2.2.1 ++ [fsub y.1.2.2.2.2.2.1 (fmul (fmul y.1.2.1 (fsub y.1.2.2.2.2.2.1 y.1.1)) y.1.2.2.1)], ()))))) else (none)) else (some (Sum.inr (((y.1.2.2.2.2.1, ()), (y.2.1, ())))))
abbrev S_newtonS_2 : Type := ((Nat × (Int × (Int × Unit))) × ((List (Fl .f32)) × Unit))
abbrev R_newtonS_2 : Type := (((Nat × (Bool × Unit)) × ((List (Fl .f32)) × ((List (Fl .f32)) × Unit))) ⊕ ((Nat × Unit) × ((List (Fl .f32)) × Unit)))
def B_newtonS_2 (y : S_newtonS_2) : Option (S_newtonS_2 ⊕ R_newtonS_2) := bif decide (y.1.2.2.1 < y.1.2.1) then (bif inB y.1.2.2.1 y.1.1 then (Option.bind (finG (List.getD y.2.1 (0 + Int.toNat y.1.2.2.1) dN)) fun (r3 : Bool) => (bif !r3 then (some (Sum.inr (Sum.inl (((0, (false, ())), (y.2.1, ([], ()))))))) else (some (Sum.inl (((y.1.1, (y.1.2.1, (IntKind.i64.wrap (y.1.2.2.1 + 1), ()))), (y.2.1, ()))))))) else (none)) else (some (Sum.inr (Sum.inr (((y.1.1, ()), (y.2.1, ()))))))
noncomputable def ss_newtonS : List (Nat × FSpec) := [(52, withinS), (57, finS)]
theorem ssOk_newtonS : FTolds Try.prog ss_newtonS := ⟨s_l00In, s_l01Finite, trivial⟩
noncomputable def Γ_newtonS : Ctx := ctxOf Try.prog tys fs ss_newtonS loops_newtonS
def d_newtonS (a b c d : Fl .f32) (n : Int) : Option (((List (Fl .f32)) × Bool)) := Option.bind (withinG (n, 1, 128)) fun (r0 : Bool) => (bif !r0 then (some (([], false))) else (Option.bind (iter B_newtonS_1 bigN (((b, (c, (d, (n, (1, (a, (1, ()))))))), (a :: [], ())))) fun (r1 : ((Nat × Unit) × ((List (Fl .f32)) × Unit))) => (Option.bind (iter B_newtonS_2 bigN (((r1.1.1, ((r1.1.1 : Int), (0, ()))), (r1.2.1, ())))) fun (r2 : (((Nat × (Bool × Unit)) × ((List (Fl .f32)) × ((List (Fl .f32)) × Unit))) ⊕ ((Nat × Unit) × ((List (Fl .f32)) × Unit)))) => (match r2 with | .inl x4 => (some ((sub x4.2.2.1 0 x4.1.1, x4.1.2.1))) | .inr x4 => (some ((sub x4.2.1 0 x4.1.1, true)))))))
theorem t_newtonS (a b c d : Fl .f32) (n : Int) : (fnT Γ_newtonS 10 17 [F32, F32, F32, F32, I64] [L32, .bool] (a, b, c, d, n)).den = d_newtonS a b c d n := by kernel_rfl
abbrev stopN (l : LS) (i : Nat) : Option R_newtonS_2 := if fin (l.getD i dN) = true then none else some (.inl ((0, (false, ())), (l, ([], ()))))
theorem all_finN (l : LS) : (firstOf (stopN l) l.length 0 = none ∧ l.all fin = true) ∨ (firstOf (stopN l) l.length 0 = some (.inl ((0, (false, ())), (l, ([], ())))) ∧ l.all fin = false) := by
  cases hf : firstOf (stopN l) l.length 0 with
  | none =>
    refine .inl ⟨rfl, List.all_eq_true.2 fun x hx => ?_⟩
    obtain ⟨j, hj, rfl⟩ := List.getElem_of_mem hx
    have := (firstOf_none _ _ _).1 hf j (Nat.zero_le _) (by omega)
    unfold stopN at this
    split at this
    · rename_i h; simpa [List.getD_eq_getElem?_getD, hj] using h
    · cases this
  | some r =>
    obtain ⟨j, _, hj, hs⟩ := firstOf_some _ _ _ _ hf
    unfold stopN at hs
    split at hs
    · cases hs
    · rename_i h
      cases hs
      refine .inr ⟨rfl, ?_⟩
      rw [List.all_eq_false]
      refine ⟨l[j]'(by omega), List.getElem_mem _, ?_⟩
      have hjl : j < l.length := by omega
      simpa [List.getD_eq_getElem?_getD, hjl] using h
theorem p_newtonS (a b c d : Fl .f32) (n : Int) (r : ((List (Fl .f32)) × Bool)) (h : newtG (a, b, c, d, n) = some r) : d_newtonS a b c d n = some r := by
  refine Eq.trans ?_ h
  unfold d_newtonS newtG newtF withinG
  simp only [Option.bind_some]
  by_cases hn : 1 ≤ n ∧ n ≤ 128
  · obtain ⟨m, rfl⟩ : ∃ m : Nat, n = m := ⟨n.toNat, by omega⟩
    obtain ⟨h1, h2⟩ := hn
    rw [if_pos ⟨h1, h2⟩, dec_in h1 h2, Int.toNat_natCast]
    have key1 := iter_for (B := B_newtonS_1) (fun i => ((b, (c, (d, ((m : Int), (i, (newt a b c d (i - 1), ((i : Int), ()))))))), (mapR (newt a b c d) i, ()))) 1 m ((m, ()), (mapR (newt a b c d) m, ())) (by omega) (by omega) (fun i hi0 hi => by
      obtain ⟨j, rfl⟩ : ∃ j, i = j + 1 := ⟨i - 1, by omega⟩
      have e1 : (mapR (newt a b c d) (j + 1)).length = j + 1 := mapR_len _ _
      have e2 : sub (mapR (newt a b c d) (j + 1)) 0 (j + 1) = mapR (newt a b c d) (j + 1) := by have := sub_all (mapR (newt a b c d) (j + 1)); rw [e1] at this; exact this
      unfold B_newtonS_1
      simp only [ltT hi, inc64 hi (show m < 2 ^ 62 by omega), cond_true, maxA_one (show j + 1 < 2 ^ 30 by omega), e2]
      rw [show fsub (newt a b c d (j + 1 - 1)) (fmul (fmul c (fsub (newt a b c d (j + 1 - 1)) b)) d) = newt a b c d (j + 1) from rfl, ← mapR_succ, mapR_len]
      rfl) (by
      unfold B_newtonS_1
      simp only [ltF, cond_false])
    have key2 := iter_find' (B := B_newtonS_2) (fun i => ((m, ((m : Int), ((i : Int), ()))), (mapR (newt a b c d) m, ()))) 0 m (stopN (mapR (newt a b c d) m)) (.inr ((m, ()), (mapR (newt a b c d) m, ()))) (Nat.zero_le _) (by omega) (fun i _ hi => by
      unfold B_newtonS_2 stopN finG
      simp only [ltT hi, inB_of hi, inc64 hi (show m < 2 ^ 62 by omega), cond_true, Int.toNat_natCast, Nat.zero_add, Option.bind_some]
      by_cases e : fin ((mapR (newt a b c d) m).getD i dN) = true
      · rw [if_pos e, e]; rfl
      · rw [if_neg e, Bool.eq_false_iff.2 e]; rfl) (by
      unfold B_newtonS_2
      simp only [ltF, cond_false])
    have hl : (mapR (newt a b c d) m).length = m := mapR_len _ _
    simp only [cond_false]
    refine (congrArg (fun z => Option.bind z _) (show iter B_newtonS_1 bigN _ = _ from key1)).trans ?_
    simp only [Option.bind_some]
    refine (congrArg (fun z => Option.bind z _) (show iter B_newtonS_2 bigN _ = _ from key2)).trans ?_
    have af := all_finN (mapR (newt a b c d) m)
    rw [hl] at af
    rcases af with ⟨q1, q2⟩ | ⟨q1, q2⟩
    · rw [Nat.sub_zero, q1, q2, if_pos rfl]
      have := sub_all (mapR (newt a b c d) m); rw [hl] at this
      simp [this]
    · rw [Nat.sub_zero, q1, q2, if_neg (by simp)]; rfl
  · rw [if_neg hn, dec_out hn]; rfl
theorem s_newtonS : FTold Try.prog 17 newtS := walkedF (fs := fs) (ss := ss_newtonS) (loop := loops_newtonS) tysOk mixed fnsOk ssOk_newtonS 10 17 [F32, F32, F32, F32, I64] [L32, .bool] rfl _ fun (a, b, c, d, n) r h => (t_newtonS a b c d n).trans (p_newtonS a b c d n r h)
def L_newtonI_1 : LSpec := ⟨[1, 2, 3, 4, 12, 13], ⟨Shs.at 46 [(1, (.flt FloatKind.f32)), (2, (.flt FloatKind.f32)), (3, (.flt FloatKind.f32)), (4, (.int IntKind.i64)), (12, (.slc 2146435392)), (13, (.int IntKind.i64))], [(2146435392, (.arr true (EK.flt FloatKind.f32)))]⟩, [⟨.ext 0, [12], ⟨Shs.at 46 [(12, (.slc 2146435392))], [(2146435392, (.arr true (EK.flt FloatKind.f32)))]⟩⟩], fun _ => bigN⟩
def loops_newtonI (f k n : Nat) : Option LSpec := bif (Nat.beq f 18 && Nat.beq k 5 && Nat.beq n 1) then some L_newtonI_1 else none
abbrev S_newtonI_1 : Type := (((Fl .f32) × ((Fl .f32) × ((Fl .f32) × (Int × (Nat × (Int × Unit)))))) × ((List (Fl .f32)) × Unit))
abbrev R_newtonI_1 : Type := ((Nat × Unit) × ((List (Fl .f32)) × Unit))
def B_newtonI_1 (y : S_newtonI_1) : Option (S_newtonI_1 ⊕ R_newtonI_1) := bif decide (y.1.2.2.2.2.2.1 < y.1.2.2.2.1) then (bif inB (IntKind.i64.wrap (y.1.2.2.2.2.2.1 - 1)) y.1.2.2.2.2.1 then (bif decide (y.1.2.2.2.2.1 + 1 ≤ maxA) then (some (Sum.inl (((y.1.1, (y.1.2.1, (y.1.2.2.1, (y.1.2.2.2.1, ((sub y.2.1 0 y.1.2.2.2.2.1 ++ [fsub (List.getD y.2.1 (0 + (IntKind.i64.wrap (y.1.2.2.2.2.2.1 - 1)).toNat) dN) (fmul (fmul y.1.2.1 (fsub (List.getD y.2.1 (0 + (IntKind.i64.wrap (y.1.2.2.2.2.2.1 - 1)).toNat) dN) y.1.1)) y.1.2.2.1)]).length, (IntKind.i64.wrap (y.1.2.2.2.2.2.1 + 1), ())))))), (sub y.2.1 0 y.1.2.2.2.2.1 ++ [fsub (List.getD y.2.1 (0 + (IntKind.i64.wrap (y.1.2.2.2.2.2.1 - 1)).toNat) dN) (fmul (fmul y.1.2.1 (fsub (List.getD y.2.1 (0 + (IntKind.i64.wrap (y.1.2.2.2.2.2.1 - 1)).toNat) dN) y.1.1)) y.1.2.2.1)], ()))))) else (none)) else (none)) else (some (Sum.inr (((y.1.2.2.2.2.1, ()), (y.2.1, ())))))
noncomputable def ss_newtonI : List (Nat × FSpec) := [(54, withinS), (55, allFinS)]
theorem ssOk_newtonI : FTolds Try.prog ss_newtonI := ⟨s_within, s_areFinite, trivial⟩
noncomputable def Γ_newtonI : Ctx := ctxOf Try.prog tys fs ss_newtonI loops_newtonI
def d_newtonI (a b c d : Fl .f32) (n : Int) : Option (((List (Fl .f32)) × Bool)) := Option.bind (withinG (n, 1, 128)) fun (r0 : Bool) => (bif !r0 then (some (([], false))) else (Option.bind (iter B_newtonI_1 bigN (((b, (c, (d, (n, (1, (1, ())))))), (a :: [], ())))) fun (r1 : ((Nat × Unit) × ((List (Fl .f32)) × Unit))) => (Option.bind (allFinG (sub r1.2.1 0 r1.1.1)) fun (r2 : Bool) => (bif !r2 then (some (([], false))) else (some ((sub r1.2.1 0 r1.1.1, true)))))))
theorem t_newtonI (a b c d : Fl .f32) (n : Int) : (fnT Γ_newtonI 10 18 [F32, F32, F32, F32, I64] [L32, .bool] (a, b, c, d, n)).den = d_newtonI a b c d n := by kernel_rfl
theorem p_newtonI (a b c d : Fl .f32) (n : Int) (r : ((List (Fl .f32)) × Bool)) (h : newtG (a, b, c, d, n) = some r) : d_newtonI a b c d n = some r := by
  refine Eq.trans ?_ h
  unfold d_newtonI newtG newtF withinG
  simp only [Option.bind_some]
  by_cases hn : 1 ≤ n ∧ n ≤ 128
  · obtain ⟨m, rfl⟩ : ∃ m : Nat, n = m := ⟨n.toNat, by omega⟩
    obtain ⟨h1, h2⟩ := hn
    rw [if_pos ⟨h1, h2⟩, dec_in h1 h2, Int.toNat_natCast]
    have key1 := iter_for (B := B_newtonI_1) (fun i => ((b, (c, (d, ((m : Int), (i, ((i : Int), ())))))), (mapR (newt a b c d) i, ()))) 1 m ((m, ()), (mapR (newt a b c d) m, ())) (by omega) (by omega) (fun i hi0 hi => by
      obtain ⟨j, rfl⟩ : ∃ j, i = j + 1 := ⟨i - 1, by omega⟩
      have e1 : (mapR (newt a b c d) (j + 1)).length = j + 1 := mapR_len _ _
      have e2 : sub (mapR (newt a b c d) (j + 1)) 0 (j + 1) = mapR (newt a b c d) (j + 1) := by have := sub_all (mapR (newt a b c d) (j + 1)); rw [e1] at this; exact this
      have e3 : IntKind.i64.wrap (((j + 1 : Nat) : Int) - 1) = ((j : Nat) : Int) := by rw [wrap64 (by omega) (by omega)]; omega
      unfold B_newtonI_1
      simp only [ltT hi, inc64 hi (show m < 2 ^ 62 by omega), e3, inB_of (show j < j + 1 by omega), Int.toNat_natCast, Nat.zero_add, mapR_get (newt a b c d) dN (show j < j + 1 by omega), cond_true, maxA_one (show j + 1 < 2 ^ 30 by omega), e2]
      rw [show fsub (newt a b c d j) (fmul (fmul c (fsub (newt a b c d j) b)) d) = newt a b c d (j + 1) from rfl, ← mapR_succ, mapR_len]) (by
      unfold B_newtonI_1
      simp only [ltF, cond_false])
    have hl : (mapR (newt a b c d) m).length = m := mapR_len _ _
    have hs : sub (mapR (newt a b c d) m) 0 m = mapR (newt a b c d) m := by have := sub_all (mapR (newt a b c d) m); rw [hl] at this; exact this
    simp only [cond_false]
    refine (congrArg (fun z => Option.bind z _) (show iter B_newtonI_1 bigN _ = _ from key1)).trans ?_
    have ha : allFinG (mapR (newt a b c d) m) = some ((mapR (newt a b c d) m).all fin) := if_pos (by rw [hl]; omega)
    simp only [Option.bind_some, hs, ha]
    cases (mapR (newt a b c d) m).all fin <;> rfl
  · rw [if_neg hn, dec_out hn]; rfl
theorem s_newtonI : FTold Try.prog 18 newtS := walkedF (fs := fs) (ss := ss_newtonI) (loop := loops_newtonI) tysOk mixed fnsOk ssOk_newtonI 10 18 [F32, F32, F32, F32, I64] [L32, .bool] rfl _ fun (a, b, c, d, n) r h => (t_newtonI a b c d n).trans (p_newtonI a b c d n r h)
def L_lawNewton_1 : LSpec := ⟨[0, 1, 5], ⟨Shs.at 20 [(0, (.slc 1085416)), (1, (.int IntKind.i64)), (5, (.int IntKind.i64))], [(1076200, (.arr true (EK.flt FloatKind.f32))), (1085416, (.arr true (EK.flt FloatKind.f32)))]⟩, [⟨.ext 0, [1], ⟨Shs.at 20 [(1, (.int IntKind.i64))], [(1076200, (.arr true (EK.flt FloatKind.f32))), (1085416, (.arr true (EK.flt FloatKind.f32)))]⟩⟩], fun _ => bigN⟩
def loops_lawNewton (f k n : Nat) : Option LSpec := bif (Nat.beq f 20 && Nat.beq k 2 && Nat.beq n 1073) then some L_lawNewton_1 else none
abbrev S_lawNewton_1 : Type := ((Nat × (Int × (Int × Unit))) × ((List (Fl .f32)) × ((List (Fl .f32)) × Unit)))
abbrev R_lawNewton_1 : Type := ((Int × Unit) × ((List (Fl .f32)) × ((List (Fl .f32)) × Unit)))
def B_lawNewton_1 (y : S_lawNewton_1) : Option (S_lawNewton_1 ⊕ R_lawNewton_1) := bif decide (y.1.2.2.1 < (y.1.1 : Int)) then (bif inB y.1.2.2.1 y.1.1 then (some (Sum.inl (((y.1.1, (IntKind.i64.wrap (y.1.2.1 + 1), (IntKind.i64.wrap (y.1.2.2.1 + 1), ()))), (y.2.1, (List.set y.2.2.1 (0 + Int.toNat y.1.2.2.1) (fofInt .f32 y.1.2.1), ())))))) else (none)) else (some (Sum.inr (((y.1.2.1, ()), (y.2.1, (y.2.2.1, ()))))))
noncomputable def ss_lawNewton : List (Nat × FSpec) := [(17, newtS), (18, newtS), (19, selfLS), (21, heldS)]
theorem ssOk_lawNewton : FTolds Try.prog ss_lawNewton := ⟨s_newtonS, s_newtonI, s_eqL, s_heldL, trivial⟩
noncomputable def Γ_lawNewton : Ctx := ctxOf Try.prog tys fs ss_lawNewton loops_lawNewton
def d_lawNewton (a b c d : Fl .f32) (n : Int) : Option (Bool) := Option.bind (newtG (a, b, c, d, n)) fun (r0 : ((List (Fl .f32)) × Bool)) => (Option.bind (newtG (a, b, c, d, n)) fun (r1 : ((List (Fl .f32)) × Bool)) => (Option.bind (selfLG (sub r1.1 0 (List.length r1.1), sub r0.1 0 (List.length r0.1))) fun (r2 : Bool) => (bif !r2 then (some (false)) else (bif !r1.2 == r0.2 then (some (false)) else (Option.bind (iter B_lawNewton_1 bigN (((List.length r1.1, (1, (0, ()))), (r0.1, (r1.1, ()))))) fun (r3 : ((Int × Unit) × ((List (Fl .f32)) × ((List (Fl .f32)) × Unit)))) => (Option.bind (heldG (sub r3.2.2.1 0 (List.length r1.1), 1)) fun (r4 : Int) => (bif decide (r4 < 0) then (some (false)) else (bif r4 != r3.1.1 then (some (false)) else (Option.bind (newtG (a, b, c, d, n)) fun (r5 : ((List (Fl .f32)) × Bool)) => (Option.bind (selfLG (sub r5.1 0 (List.length r5.1), sub r3.2.1 0 (List.length r0.1))) fun (r6 : Bool) => (bif !r6 then (some (false)) else (bif !r5.2 == r0.2 then (some (false)) else (Option.bind (heldG (sub r3.2.2.1 0 (List.length r1.1), 1)) fun (r7 : Int) => (bif decide (r7 < 0) then (some (false)) else (bif r7 != r3.1.1 then (some (false)) else (some (true)))))))))))))))))
theorem t_lawNewton (a b c d : Fl .f32) (n : Int) : (fnT Γ_lawNewton 10 4 [F32, F32, F32, F32, I64] [.bool] (a, b, c, d, n)).den = d_lawNewton a b c d n := by kernel_rfl
theorem newt_len (a b c d : Fl .f32) (n : Int) : (newtF a b c d n).1.length ≤ 128 := by
  unfold newtF
  split
  · split
    · rw [mapR_len]; omega
    · exact Nat.zero_le _
  · exact Nat.zero_le _
def yes5G (_ : Fl .f32 × Fl .f32 × Fl .f32 × Fl .f32 × Int) : Option Bool := some true
def yes5S : FSpec := ⟨[F32, F32, F32, F32, I64], [.bool], yes5G⟩
theorem p_lawNewton (a b c d : Fl .f32) (n : Int) (r : Bool) (h : yes5G (a, b, c, d, n) = some r) : d_lawNewton a b c d n = some r := by
  cases h
  obtain ⟨⟨g, ok⟩, hg⟩ : ∃ z, newtG (a, b, c, d, n) = some z := ⟨_, rfl⟩
  have hl : g.length ≤ 128 := by have := newt_len a b c d n; rw [show newtF a b c d n = (g, ok) from Option.some.inj hg] at this; exact this
  have hs : selfLG (g, g) = some true := if_pos ⟨rfl, by show g.length < 2 ^ 62; omega⟩
  have key := iter_for (B := B_lawNewton_1) (fun i => ((g.length, (1 + i, ((i : Int), ()))), (g, (markUp 1 g i, ())))) 0 g.length ((1 + (g.length : Int), ()), (g, (markUp 1 g g.length, ()))) (Nat.zero_le _) (by omega) (fun i _ hi => by
    unfold B_lawNewton_1
    simp only [ltT hi, inB_of hi, inc64 hi (show g.length < 2 ^ 62 by omega), wrapAdd (show (0 : Int) ≤ 1 by decide) (by decide) (show i < 2 ^ 60 by omega), Int.toNat_natCast, Nat.zero_add, cond_true, markUp_succ 1 g hi]) (by
    unfold B_lawNewton_1
    simp only [ltF, cond_false])
  simp only [markUp_zero, markUp_end] at key
  have hm : sub (marks 1 g.length) 0 g.length = marks 1 g.length := by have := sub_all (marks 1 g.length); rw [marks_len] at this; exact this
  have hh : heldG (marks 1 g.length, 1) = some (1 + (g.length : Int)) := by
    have : heldG (marks 1 g.length, 1) = some (1 + ((marks 1 g.length).length : Int)) := if_pos ⟨by show _ = marks 1 (marks 1 g.length).length; rw [marks_len], by show (marks 1 g.length).length < 2 ^ 40; rw [marks_len]; omega, show (0 : Int) ≤ 1 by decide, show (1 : Int) < 2 ^ 60 by decide⟩
    rw [this, marks_len]
  unfold d_lawNewton
  have hlt : decide (1 + (g.length : Int) < 0) = false := by simp; omega
  rw [hg]
  simp only [Option.bind_some, sub_all, hs, Bool.not_true, cond_false, eq_not_self]
  refine (congrArg (fun z => Option.bind z _) (show iter B_lawNewton_1 bigN _ = _ from key)).trans ?_
  simp only [Option.bind_some, hm, hh, hlt, cond_false, eq_bne, sub_all, hs, Bool.not_true]
theorem s_lawNewton : FTold Try.prog 4 yes5S := walkedF (fs := fs) (ss := ss_lawNewton) (loop := loops_lawNewton) tysOk mixed fnsOk ssOk_lawNewton 10 4 [F32, F32, F32, F32, I64] [.bool] rfl _ fun (a, b, c, d, n) r h => (t_lawNewton a b c d n).trans (p_lawNewton a b c d n r h)
open Go.RowKit Go.ChangeShapes Go.WideShapes Go.ChangeAt
set_option maxRecDepth 100000 in
theorem lifted_lawNewton (os : Os) (started : os.Started) (H : Type) (enc : TypeId × Value → H) :
    ReturnsInHanded {} Try.checked os 4 .any (Rows.fnExactNewtonCurveSpec.pre6 enc Try.prog Try.f4 Rows.fnExactNewtonCurveRow.domain false) (Rows.fnExactNewtonCurveSpec.post enc Try.prog Try.f4 false true false false) := by
  refine returnsInHanded_of_change (C := Try.checked) own started (by kernel_rfl) Try.func4
    (ChangeSpec.witness6 (enc := enc) (C := Try.checked) false ⟨#[], #[.float .f32 0, .float .f32 0, .float .f32 0, .float .f32 0, .int .i64 0], []⟩ 8 (by kernel_rfl) (by kernel_rfl) (by kernel_rfl) (by kernel_rfl)) ?_
  intro W base args ds gs before hval hW _ _
  exact law_post (P := Try.prog) (fn := Try.f4) (s := Rows.fnExactNewtonCurveSpec) laidOut s_lawNewton.out Try.func4 rfl (by kernel_rfl) (by kernel_rfl) (by kernel_rfl) rfl Try.underlying4 rfl (fun ds h => by
    match ds, h with
    | [d0, d1, d2, d3, d4], _ => exact ⟨rfl, rfl, rfl⟩) (fun _ _ => rfl) W base args ds gs before hval hW

theorem over4 : Rows.FnExactNewtonCurveSaid :=
  OpenClaim.holds_of_wide 4 Try.f4 rfl rfl rfl rfl rfl rfl rfl ⟨rfl, rfl, rfl, rfl, rfl⟩ rfl rfl rfl rfl rfl (by kernel_rfl) Try.func4 (by kernel_rfl)
    (of_decide_eq_true (by kernel_rfl)) (by unfold Func.isWrapper; first | (rw [if_pos (by decide +kernel)]; kernel_rfl) | (rw [if_neg (by decide +kernel)]; exact ⟨rfl, rfl⟩))
    (fun os started H enc _ => lifted_lawNewton os started H enc)
end Go.Proofs.Ytgmjoehnkannkaa
