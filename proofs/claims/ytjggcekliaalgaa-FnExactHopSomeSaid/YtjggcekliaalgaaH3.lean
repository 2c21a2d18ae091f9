/- Heights: valid ones, copies, likeness. -/
import Derived.Test.YtjggcekliaalgaaH2
namespace Go.Proofs.Ytjggcekliaalgaa
open Go.Ab
def vhB (x : HT) : Bool := decide (szOk x.1 x.2.1) && (decide ((x.2.2.length : Int) = x.1 * x.2.1) && areB 0 1000 x.2.2)
theorem szOk_eq (w g : Int) : decide (szOk w g) = ((decide (2 ≤ w) && decide (w ≤ 16)) && (decide (2 ≤ g) && decide (g ≤ 16))) := by
  apply Bool.eq_iff_iff.2
  simp only [Bool.and_eq_true, decide_eq_true_iff]
  exact ⟨fun ⟨a, b, c, d⟩ => ⟨⟨a, b⟩, c, d⟩, fun ⟨⟨a, b⟩, c, d⟩ => ⟨a, b, c, d⟩⟩
theorem are2 (w g : Int) : areB 2 16 [w, g] = decide (szOk w g) := by
  rw [szOk_eq]
  unfold areB
  simp only [List.all_cons, List.all_nil, Bool.and_true]
theorem wg_b {w g : Int} (h : szOk w g) : 4 ≤ w * g ∧ w * g ≤ 256 := by
  obtain ⟨h1, h2, h3, h4⟩ := h
  have a : w * g ≤ 16 * g := Int.mul_le_mul_of_nonneg_right h2 (by omega)
  have b : 2 * g ≤ w * g := Int.mul_le_mul_of_nonneg_right h1 (by omega)
  omega
def vhG (x : HT) : Option Bool := if x.2.2.length < 2 ^ 62 then some (vhB x) else none
def vhS : FSpec := ⟨[HD], [.bool], vhG⟩
def vhPG (x : HT) : Option Bool := vhG x
def vhPS : FSpec := ⟨[.ptr HD], [.bool], vhPG⟩
def loops_VHI (_ _ _ : Nat) : Option LSpec := none
noncomputable def ss_VHI : List (Nat × FSpec) := [(86, areS)]
theorem ssOk_VHI : FTolds Try.prog ss_VHI := ⟨s_areWithin, trivial⟩
noncomputable def Γ_VHI : Ctx := ctxOf Try.prog tys fs ss_VHI loops_VHI
noncomputable def d_VHI (w g : Int) (l : LI) : Option (Bool) := Option.bind (areG (2, 16, sub [w, g] 0 2)) fun (r0 : Bool) => (bif r0 then (bif ((List.length l : Nat) : Int) == IntKind.i64.wrap (w * g) then (Option.bind (areG (0, 1000, sub l 0 (List.length l))) fun (r1 : Bool) => (some (r1))) else (some (false))) else (some (false)))
theorem t_VHI (w g : Int) (l : LI) : (fnT Γ_VHI 10 83 [HD] [.bool] (w, g, l)).den = d_VHI w g l := by kernel_rfl
theorem p_VHI (w g : Int) (l : LI) (r : Bool) (h : vhG (w, g, l) = some r) : d_VHI w g l = some r := by
  obtain ⟨hb, rfl⟩ := if_some (show (if l.length < 2 ^ 62 then some (vhB (w, g, l)) else none) = some r from h)
  have k1 : areG (2, 16, [w, g]) = some (decide (szOk w g)) := (if_pos (show (2 : Nat) < 2 ^ 62 by decide)).trans (congrArg some (are2 w g))
  have k2 : areG (0, 1000, l) = some (areB 0 1000 l) := if_pos hb
  unfold d_VHI vhB
  simp only [sub_all, show sub [w, g] 0 2 = [w, g] from rfl, k1, k2, Option.bind_some, beqD]
  by_cases c : szOk w g
  · have := wg_b c
    rw [decide_eq_true c, wrap64 (by omega) (by omega)]
    cases decide ((l.length : Int) = w * g) <;> rfl
  · rw [decide_eq_false c]; rfl
theorem s_VHI : FTold Try.prog 83 vhS := walkedF (fs := fs) (ss := ss_VHI) (loop := loops_VHI) tysOk mixed fnsOk ssOk_VHI 10 83 [HD] [.bool] rfl _ fun (w, g, l) r h => (t_VHI w g l).trans (p_VHI w g l r h)
def sizeG (x : Int × Int) : Option Bool := some (decide (szOk x.1 x.2))
def sizeS : FSpec := ⟨[I64, I64], [.bool], sizeG⟩
def loops_l05Size (_ _ _ : Nat) : Option LSpec := none
noncomputable def ss_l05Size : List (Nat × FSpec) := [(77, withinS)]
theorem ssOk_l05Size : FTolds Try.prog ss_l05Size := ⟨s_l00In, trivial⟩
noncomputable def Γ_l05Size : Ctx := ctxOf Try.prog tys fs ss_l05Size loops_l05Size
noncomputable def d_l05Size (p q : Int) : Option (Bool) := Option.bind (withinG (p, 2, 16)) fun (r0 : Bool) => (bif r0 then (Option.bind (withinG (q, 2, 16)) fun (r1 : Bool) => (some (r1))) else (some (false)))
theorem t_l05Size (p q : Int) : (fnT Γ_l05Size 10 141 [I64, I64] [.bool] (p, q)).den = d_l05Size p q := by kernel_rfl
theorem p_l05Size (p q : Int) (r : Bool) (h : sizeG (p, q) = some r) : d_l05Size p q = some r := by
  refine Eq.trans ?_ h
  unfold d_l05Size sizeG withinG
  simp only [Option.bind_some, szOk_eq]
  cases (decide (2 ≤ p) && decide (p ≤ 16)) <;> rfl
theorem s_l05Size : FTold Try.prog 141 sizeS := walkedF (fs := fs) (ss := ss_l05Size) (loop := loops_l05Size) tysOk mixed fnsOk ssOk_l05Size 10 141 [I64, I64] [.bool] rfl _ fun (p, q) r h => (t_l05Size p q).trans (p_l05Size p q r h)
def L_VHS_1 : LSpec := ⟨[0, 8, 9], ⟨Shs.at 48 [(0, (.ptr 2 0 0)), (8, (.int IntKind.i64)), (9, (.int IntKind.i64))], [(2, (.vals false (.cons (.int IntKind.i64) (.cons (.int IntKind.i64) (.cons (.slc 3) .nil))))), (3, (.arr false (EK.int IntKind.i64)))]⟩, [⟨.ret, [2], ⟨Shs.at 48 [(2, .bool)], [(2, (.vals false (.cons (.int IntKind.i64) (.cons (.int IntKind.i64) (.cons (.slc 3) .nil))))), (3, (.arr false (EK.int IntKind.i64)))]⟩⟩, ⟨.ext 0, [0], ⟨Shs.at 48 [(0, (.ptr 2 0 0))], [(2, (.vals false (.cons (.int IntKind.i64) (.cons (.int IntKind.i64) (.cons (.slc 3) .nil))))), (3, (.arr false (EK.int IntKind.i64)))]⟩⟩], fun _ => bigN⟩
def loops_VHS (f k n : Nat) : Option LSpec := bif (Nat.beq f 76 && Nat.beq k 2 && Nat.beq n 1) then some L_VHS_1 else none
abbrev S_VHS_1 : Type := ((Int × (Int × Unit)) × ((Int × (Int × (Nat × Unit))) × ((List Int) × Unit)))
abbrev R_VHS_1 : Type := (((Bool × Unit) × ((Int × (Int × (Nat × Unit))) × ((List Int) × Unit))) ⊕ (Unit × ((Int × (Int × (Nat × Unit))) × ((List Int) × Unit))))
noncomputable def B_VHS_1 (y : S_VHS_1) : Option (S_VHS_1 ⊕ R_VHS_1) := bif decide (y.1.2.1 < y.1.1) then (bif inB y.1.2.1 y.2.1.2.2.1 then (Option.bind (withinG (List.getD y.2.2.1 (0 + Int.toNat y.1.2.1) (0 : Int), 0, 1000)) fun (r1 : Bool) => (bif !r1 then (some (Sum.inr (Sum.inl (((false, ()), ((y.2.1.1, (y.2.1.2.1, (y.2.1.2.2.1, ()))), (y.2.2.1, ()))))))) else (some (Sum.inl (((y.1.1, (IntKind.i64.wrap (y.1.2.1 + 1), ())), ((y.2.1.1, (y.2.1.2.1, (y.2.1.2.2.1, ()))), (y.2.2.1, ())))))))) else (none)) else (some (Sum.inr (Sum.inr (((), ((y.2.1.1, (y.2.1.2.1, (y.2.1.2.2.1, ()))), (y.2.2.1, ())))))))
noncomputable def ss_VHS : List (Nat × FSpec) := [(77, withinS), (141, sizeS)]
theorem ssOk_VHS : FTolds Try.prog ss_VHS := ⟨s_l00In, s_l05Size, trivial⟩
noncomputable def Γ_VHS : Ctx := ctxOf Try.prog tys fs ss_VHS loops_VHS
noncomputable def d_VHS (w g : Int) (l : LI) : Option (Bool) := Option.bind (iter B_VHS_1 bigN (((((List.length l : Nat) : Int), (0, ())), ((w, (g, (List.length l, ()))), (l, ()))))) fun (r0 : (((Bool × Unit) × ((Int × (Int × (Nat × Unit))) × ((List Int) × Unit))) ⊕ (Unit × ((Int × (Int × (Nat × Unit))) × ((List Int) × Unit))))) => (match r0 with | .inl x2 => (some (x2.1.1)) | .inr x2 => (Option.bind (sizeG (x2.2.1.1, x2.2.1.2.1)) fun (r3 : Bool) => (bif r3 then (some ((x2.2.1.2.2.1 : Int) == IntKind.i64.wrap (x2.2.1.1 * x2.2.1.2.1))) else (some (false)))))
theorem t_VHS (w g : Int) (l : LI) : (fnT Γ_VHS 10 76 [.ptr HD] [.bool] (w, g, l)).den = d_VHS w g l := by kernel_rfl
theorem p_VHS (w g : Int) (l : LI) (r : Bool) (h : vhPG (w, g, l) = some r) : d_VHS w g l = some r := by
  obtain ⟨hb, rfl⟩ := if_some (show (if l.length < 2 ^ 62 then some (vhB (w, g, l)) else none) = some r from h)
  unfold d_VHS vhB
  have key := iter_find' (B := B_VHS_1) (fun i => (((l.length : Int), ((i : Int), ())), ((w, (g, (l.length, ()))), (l, ())))) 0 l.length (fun i => if (decide (0 ≤ l.getD i 0) && decide (l.getD i 0 ≤ 1000)) = true then none else some (.inl (((false, ()), ((w, (g, (l.length, ()))), (l, ())))))) (.inr ((), ((w, (g, (l.length, ()))), (l, ())))) (Nat.zero_le _) hb (fun i _ hi => by
    unfold B_VHS_1 withinG
    simp only [ltT hi, inB_of hi, inc64 hi hb, cond_true, Int.toNat_natCast, Nat.zero_add, Option.bind_some]
    by_cases e : (decide (0 ≤ l.getD i 0) && decide (l.getD i 0 ≤ 1000)) = true
    · rw [if_pos e, e]; rfl
    · rw [if_neg e, Bool.eq_false_iff.2 e]; rfl) (by
    unfold B_VHS_1
    simp only [ltF, cond_false])
  refine (congrArg (fun z => Option.bind z _) (show iter B_VHS_1 bigN _ = _ from key)).trans ?_
  cases hf : firstOf (fun i => if (decide (0 ≤ l.getD i 0) && decide (l.getD i 0 ≤ 1000)) = true then none else some (.inl (((false, ()), ((w, (g, (l.length, ()))), (l, ())))) : R_VHS_1)) (l.length - 0) 0 with
  | none =>
    rw [are_yes (p := 0) (q := 1000) (l := l) fun i hi => none_of ((firstOf_none _ _ _).1 hf i (Nat.zero_le _) (by omega))]
    simp only [Option.getD_none, Option.bind_some, sizeG, beqD, Bool.and_true]
    by_cases c : szOk w g
    · have := wg_b c
      rw [decide_eq_true c, wrap64 (by omega) (by omega)]
      rfl
    · rw [decide_eq_false c]; rfl
  | some z =>
    obtain ⟨j, _, hj, hs⟩ := firstOf_some _ _ _ _ hf
    by_cases e : (decide (0 ≤ l.getD j 0) && decide (l.getD j 0 ≤ 1000)) = true
    · rw [if_pos e] at hs; cases hs
    · rw [if_neg e] at hs
      cases hs
      rw [are_no (i := j) (by omega) (Bool.eq_false_iff.2 e), Bool.and_false, Bool.and_false]
      rfl
theorem s_VHS : FTold Try.prog 76 vhPS := walkedF (fs := fs) (ss := ss_VHS) (loop := loops_VHS) tysOk mixed fnsOk ssOk_VHS 10 76 [.ptr HD] [.bool] rfl _ fun (w, g, l) r h => (t_VHS w g l).trans (p_VHS w g l r h)
theorem maxA_le {n : Nat} [inst : Decidable (n ≤ maxA)] (h : n ≤ 2 ^ 30) : @decide (n ≤ maxA) inst = true := by
  have : maxA = 2 ^ 36 := rfl
  simp; omega
def ownG (x : HT) : Option HT := if x.2.2.length ≤ 2 ^ 30 then some x else none
def ownS : FSpec := ⟨[.ptr HD], [HD], ownG⟩
def loops_l05Own (_ _ _ : Nat) : Option LSpec := none
noncomputable def ss_l05Own : List (Nat × FSpec) := []
theorem ssOk_l05Own : FTolds Try.prog ss_l05Own := trivial
noncomputable def Γ_l05Own : Ctx := ctxOf Try.prog tys fs ss_l05Own loops_l05Own
noncomputable def d_l05Own (w g : Int) (l : LI) : Option ((Int × (Int × (List Int)))) := bif decide ((sub l 0 (List.length l)).length ≤ maxA) then (some ((w, (g, sub (sub l 0 (List.length l)) 0 (sub l 0 (List.length l)).length)))) else (none)
theorem t_l05Own (w g : Int) (l : LI) : (fnT Γ_l05Own 10 79 [.ptr HD] [HD] (w, g, l)).den = d_l05Own w g l := by kernel_rfl
theorem p_l05Own (w g : Int) (l : LI) (r : (Int × (Int × (List Int)))) (h : ownG (w, g, l) = some r) : d_l05Own w g l = some r := by
  obtain ⟨hb, rfl⟩ := if_some (show (if l.length ≤ 2 ^ 30 then some (w, g, l) else none) = some r from h)
  unfold d_l05Own
  simp only [sub_all, maxA_le hb, cond_true]
theorem s_l05Own : FTold Try.prog 79 ownS := walkedF (fs := fs) (ss := ss_l05Own) (loop := loops_l05Own) tysOk mixed fnsOk ssOk_l05Own 10 79 [.ptr HD] [HD] rfl _ fun (w, g, l) r h => (t_l05Own w g l).trans (p_l05Own w g l r h)
def cloneG (l : LI) : Option LI := if 0 < l.length ∧ l.length ≤ 2 ^ 30 then some l else none
def cloneS : FSpec := ⟨[L64], [L64], cloneG⟩
def loops_clone (_ _ _ : Nat) : Option LSpec := none
noncomputable def ss_clone : List (Nat × FSpec) := []
theorem ssOk_clone : FTolds Try.prog ss_clone := trivial
noncomputable def Γ_clone : Ctx := ctxOf Try.prog tys fs ss_clone loops_clone
noncomputable def d_clone (l : LI) : Option ((List Int)) := bif decide (0 < List.length l) then (bif decide ((sub l 0 (List.length l)).length ≤ maxA) then (some (sub (sub l 0 (List.length l)) 0 (sub l 0 (List.length l)).length)) else (none)) else (none)
theorem t_clone (l : LI) : (fnT Γ_clone 10 147 [L64] [L64] l).den = d_clone l := by kernel_rfl
theorem p_clone (l : LI) (r : (List Int)) (h : cloneG l = some r) : d_clone l = some r := by
  obtain ⟨⟨h1, h2⟩, rfl⟩ := if_some (show (if 0 < l.length ∧ l.length ≤ 2 ^ 30 then some l else none) = some r from h)
  unfold d_clone
  simp only [sub_all, decide_eq_true h1, maxA_le h2, cond_true]
theorem s_clone : FTold Try.prog 147 cloneS := walkedF (fs := fs) (ss := ss_clone) (loop := loops_clone) tysOk mixed fnsOk ssOk_clone 10 147 [L64] [L64] rfl _ fun l r h => (t_clone l).trans (p_clone l r h)
def clonedG (x : HT) : Option HT := if 0 < x.2.2.length ∧ x.2.2.length ≤ 2 ^ 30 then some x else none
def clonedS : FSpec := ⟨[HD], [HD], clonedG⟩
def loops_cloned (_ _ _ : Nat) : Option LSpec := none
noncomputable def ss_cloned : List (Nat × FSpec) := []
theorem ssOk_cloned : FTolds Try.prog ss_cloned := trivial
noncomputable def Γ_cloned : Ctx := ctxOf Try.prog tys fs ss_cloned loops_cloned
noncomputable def d_cloned (w g : Int) (l : LI) : Option ((Int × (Int × (List Int)))) := bif decide (0 < List.length l) then (bif decide ((sub l 0 (List.length l)).length ≤ maxA) then (some ((w, (g, sub (sub l 0 (List.length l)) 0 (sub l 0 (List.length l)).length)))) else (none)) else (none)
theorem t_cloned (w g : Int) (l : LI) : (fnT Γ_cloned 10 87 [HD] [HD] (w, g, l)).den = d_cloned w g l := by kernel_rfl
theorem p_cloned (w g : Int) (l : LI) (r : (Int × (Int × (List Int)))) (h : clonedG (w, g, l) = some r) : d_cloned w g l = some r := by
  obtain ⟨⟨h1, h2⟩, rfl⟩ := if_some (show (if 0 < l.length ∧ l.length ≤ 2 ^ 30 then some (w, g, l) else none) = some r from h)
  unfold d_cloned
  simp only [sub_all, decide_eq_true h1, maxA_le h2, cond_true]
theorem s_cloned : FTold Try.prog 87 clonedS := walkedF (fs := fs) (ss := ss_cloned) (loop := loops_cloned) tysOk mixed fnsOk ssOk_cloned 10 87 [HD] [HD] rfl _ fun (w, g, l) r h => (t_cloned w g l).trans (p_cloned w g l r h)
def eqHG (x : HT × HT) : Option Bool := if x.1.2.2.length < 2 ^ 62 then some (decide (x.1 = x.2)) else none
def eqHS : FSpec := ⟨[HD, HD], [.bool], eqHG⟩
def loops_SameH (_ _ _ : Nat) : Option LSpec := none
noncomputable def ss_SameH : List (Nat × FSpec) := [(133, eqIS)]
theorem ssOk_SameH : FTolds Try.prog ss_SameH := ⟨s_Equal, trivial⟩
noncomputable def Γ_SameH : Ctx := ctxOf Try.prog tys fs ss_SameH loops_SameH
noncomputable def d_SameH (w g : Int) (l : LI) (w' g' : Int) (m : LI) : Option (Bool) := bif w == w' then (bif g == g' then (Option.bind (eqIG (sub l 0 (List.length l), sub m 0 (List.length m))) fun (r0 : Bool) => (some (r0))) else (some (false))) else (some (false))
theorem t_SameH (w g : Int) (l : LI) (w' g' : Int) (m : LI) : (fnT Γ_SameH 10 57 [HD, HD] [.bool] ((w, g, l), (w', g', m))).den = d_SameH w g l w' g' m := by kernel_rfl
theorem p_SameH (w g : Int) (l : LI) (w' g' : Int) (m : LI) (r : Bool) (h : eqHG ((w, g, l), (w', g', m)) = some r) : d_SameH w g l w' g' m = some r := by
  obtain ⟨hb, rfl⟩ := if_some (show (if l.length < 2 ^ 62 then some (decide ((w, g, l) = (w', g', m))) else none) = some r from h)
  have k1 : eqIG (l, m) = some (decide (l = m)) := if_pos hb
  unfold d_SameH
  simp only [sub_all, k1, Option.bind_some, beqD]
  by_cases c1 : w = w'
  · by_cases c2 : g = g'
    · simp [c1, c2]
    · simp [c1, c2]
  · simp [c1]
theorem s_SameH : FTold Try.prog 57 eqHS := walkedF (fs := fs) (ss := ss_SameH) (loop := loops_SameH) tysOk mixed fnsOk ssOk_SameH 10 57 [HD, HD] [.bool] rfl _ fun ((w, g, l), (w', g', m)) r h => (t_SameH w g l w' g' m).trans (p_SameH w g l w' g' m r h)
def copyHG (x : HT) : Option HT := if x.2.2.length ≤ 2 ^ 40 then some x else none
def copyHS : FSpec := ⟨[HD], [HD], copyHG⟩
def loops_toH (_ _ _ : Nat) : Option LSpec := none
noncomputable def ss_toH : List (Nat × FSpec) := [(26, copyIS)]
theorem ssOk_toH : FTolds Try.prog ss_toH := ⟨s_toI, trivial⟩
noncomputable def Γ_toH : Ctx := ctxOf Try.prog tys fs ss_toH loops_toH
noncomputable def d_toH (w g : Int) (l : LI) : Option ((Int × (Int × (List Int)))) := Option.bind (copyIG (sub l 0 (List.length l))) fun (r0 : (List Int)) => (some ((w, (g, sub r0 0 (List.length r0)))))
theorem t_toH (w g : Int) (l : LI) : (fnT Γ_toH 10 20 [HD] [HD] (w, g, l)).den = d_toH w g l := by kernel_rfl
theorem p_toH (w g : Int) (l : LI) (r : (Int × (Int × (List Int)))) (h : copyHG (w, g, l) = some r) : d_toH w g l = some r := by
  obtain ⟨h1, rfl⟩ := if_some (show (if l.length ≤ 2 ^ 40 then some (w, g, l) else none) = some r from h)
  have k1 : copyIG l = some l := if_pos h1
  unfold d_toH
  simp only [sub_all, k1, Option.bind_some]
theorem s_toH : FTold Try.prog 20 copyHS := walkedF (fs := fs) (ss := ss_toH) (loop := loops_toH) tysOk mixed fnsOk ssOk_toH 10 20 [HD] [HD] rfl _ fun (w, g, l) r h => (t_toH w g l).trans (p_toH w g l r h)
def selfHG (x : HT × HT) : Option Bool := if x.1 = x.2 ∧ x.1.2.2.length < 2 ^ 62 then some true else none
def selfHS : FSpec := ⟨[HD, HD], [.bool], selfHG⟩
def loops_eqH (_ _ _ : Nat) : Option LSpec := none
noncomputable def ss_eqH : List (Nat × FSpec) := [(28, selfIS)]
theorem ssOk_eqH : FTolds Try.prog ss_eqH := ⟨s_eqI, trivial⟩
noncomputable def Γ_eqH : Ctx := ctxOf Try.prog tys fs ss_eqH loops_eqH
noncomputable def d_eqH (w g : Int) (l : LI) (w' g' : Int) (m : LI) : Option (Bool) := bif w != w' then (some (false)) else (bif g != g' then (some (false)) else (Option.bind (selfIG (sub l 0 (List.length l), sub m 0 (List.length m))) fun (r0 : Bool) => (bif !r0 then (some (false)) else (some (true)))))
theorem t_eqH (w g : Int) (l : LI) (w' g' : Int) (m : LI) : (fnT Γ_eqH 10 22 [HD, HD] [.bool] ((w, g, l), (w', g', m))).den = d_eqH w g l w' g' m := by kernel_rfl
theorem p_eqH (w g : Int) (l : LI) (w' g' : Int) (m : LI) (r : Bool) (h : selfHG ((w, g, l), (w', g', m)) = some r) : d_eqH w g l w' g' m = some r := by
  obtain ⟨⟨e, h1⟩, rfl⟩ := if_some (show (if (w, g, l) = (w', g', m) ∧ l.length < 2 ^ 62 then some true else none) = some r from h)
  cases e
  have k1 : selfIG (l, l) = some true := if_pos ⟨rfl, h1⟩
  unfold d_eqH
  simp only [sub_all, k1, Option.bind_some, Bool.not_true, cond_false, eq_bne]
theorem s_eqH : FTold Try.prog 22 selfHS := walkedF (fs := fs) (ss := ss_eqH) (loop := loops_eqH) tysOk mixed fnsOk ssOk_eqH 10 22 [HD, HD] [.bool] rfl _ fun ((w, g, l), (w', g', m)) r h => (t_eqH w g l w' g' m).trans (p_eqH w g l w' g' m r h)
def szHG (x : HT × Int) : Option Int := if 0 ≤ x.2 ∧ x.2 ≤ 2 ^ 20 ∧ x.1.2.2.length ≤ maxLen then some (szF x.2 x.1.2.2.length) else none
def szHS : FSpec := ⟨[HD, I64], [I64], szHG⟩
def loops_szH (_ _ _ : Nat) : Option LSpec := none
noncomputable def ss_szH : List (Nat × FSpec) := [(69, szIS)]
theorem ssOk_szH : FTolds Try.prog ss_szH := ⟨s_szI, trivial⟩
noncomputable def Γ_szH : Ctx := ctxOf Try.prog tys fs ss_szH loops_szH
noncomputable def d_szH (w g : Int) (l : LI) (n : Int) : Option (Int) := Option.bind (szIG (sub l 0 (List.length l), n)) fun (r0 : Int) => (bif decide (r0 < 0) then (some (-1)) else (some (r0)))
theorem t_szH (w g : Int) (l : LI) (n : Int) : (fnT Γ_szH 10 18 [HD, I64] [I64] ((w, g, l), n)).den = d_szH w g l n := by kernel_rfl
theorem p_szH (w g : Int) (l : LI) (n : Int) (r : Int) (h : szHG ((w, g, l), n) = some r) : d_szH w g l n = some r := by
  obtain ⟨⟨h0, h1, h2⟩, rfl⟩ := if_some (show (if 0 ≤ n ∧ n ≤ 2 ^ 20 ∧ l.length ≤ maxLen then some (szF n l.length) else none) = some r from h)
  have k1 : szIG (l, n) = some (szF n l.length) := if_pos ⟨h0, h1, h2⟩
  unfold d_szH
  simp only [sub_all, k1, Option.bind_some]
  exact sz_end h0
theorem s_szH : FTold Try.prog 18 szHS := walkedF (fs := fs) (ss := ss_szH) (loop := loops_szH) tysOk mixed fnsOk ssOk_szH 10 18 [HD, I64] [I64] rfl _ fun ((w, g, l), n) r h => (t_szH w g l n).trans (p_szH w g l n r h)
def heldHG (x : HT × Int) : Option Int := if x.1.2.2 = imarks x.2 x.1.2.2.length ∧ x.1.2.2.length < 2 ^ 40 ∧ 0 ≤ x.2 ∧ x.2 < 2 ^ 50 then some (x.2 + x.1.2.2.length) else none
def heldHS : FSpec := ⟨[HD, I64], [I64], heldHG⟩
def loops_heldH (_ _ _ : Nat) : Option LSpec := none
noncomputable def ss_heldH : List (Nat × FSpec) := [(33, heldIS)]
theorem ssOk_heldH : FTolds Try.prog ss_heldH := ⟨s_heldI, trivial⟩
noncomputable def Γ_heldH : Ctx := ctxOf Try.prog tys fs ss_heldH loops_heldH
noncomputable def d_heldH (w g : Int) (l : LI) (n : Int) : Option (Int) := Option.bind (heldIG (sub l 0 (List.length l), n)) fun (r0 : Int) => (bif decide (r0 < 0) then (some (-1)) else (some (r0)))
theorem t_heldH (w g : Int) (l : LI) (n : Int) : (fnT Γ_heldH 10 24 [HD, I64] [I64] ((w, g, l), n)).den = d_heldH w g l n := by kernel_rfl
theorem p_heldH (w g : Int) (l : LI) (n : Int) (r : Int) (h : heldHG ((w, g, l), n) = some r) : d_heldH w g l n = some r := by
  obtain ⟨⟨e1, h1, h3, h4⟩, rfl⟩ := if_some (show (if l = imarks n l.length ∧ l.length < 2 ^ 40 ∧ 0 ≤ n ∧ n < 2 ^ 50 then some (n + (l.length : Int)) else none) = some r from h)
  have k1 : heldIG (l, n) = some (n + (l.length : Int)) := if_pos ⟨e1, h1, h3, by show n < 2 ^ 60; omega⟩
  unfold d_heldH
  simp only [sub_all, k1, Option.bind_some]
  rw [decide_eq_false (show ¬ n + (l.length : Int) < 0 by omega)]; rfl
theorem s_heldH : FTold Try.prog 24 heldHS := walkedF (fs := fs) (ss := ss_heldH) (loop := loops_heldH) tysOk mixed fnsOk ssOk_heldH 10 24 [HD, I64] [I64] rfl _ fun ((w, g, l), n) r h => (t_heldH w g l n).trans (p_heldH w g l n r h)
end Go.Proofs.Ytjggcekliaalgaa
