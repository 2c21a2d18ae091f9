/- The program's HalvesAround answers as the reference's does, at all arguments. No condition. -/
import Derived.Test.YtjggcekliaalgaaB3
namespace Go.Proofs.Ytjggcekliaalgaa
open Go.Ab
def phP (n j : Nat) : Fl .f64 := fdiv (fofInt .f64 (j : Int)) (fofInt .f64 (n : Int))
def sinP (n j : Nat) : Fl .f32 := fadd (Fl.of .f32 1048576000) (fdiv (fofInt .f32 (j : Int)) (fofInt .f32 (n : Int)))
theorem frac_le {n j : Nat} (h : j < n) : 0 ≤ (j : Rat) / (n : Rat) ∧ (j : Rat) / (n : Rat) ≤ 1 := by
  have hn : (0 : Rat) < (n : Rat) := by
    have : ((0 : Nat) : Rat) < (n : Rat) := Rat.natCast_lt_natCast.2 (by omega)
    exact this
  have hj : (0 : Rat) ≤ (j : Rat) := Rat.natCast_nonneg
  have hjn : (j : Rat) ≤ (n : Rat) := Rat.natCast_le_natCast.2 (by omega)
  exact ⟨(le_div_iff' hn).2 (by rw [Rat.zero_mul]; exact hj), (div_le_iff' hn).2 (by rw [Rat.one_mul]; exact hjn)⟩
theorem n_ne {n : Nat} (h : 0 < n) : (n : Rat) ≠ 0 := by
  have : ((0 : Nat) : Rat) < (n : Rat) := Rat.natCast_lt_natCast.2 h
  intro e
  rw [e] at this
  exact absurd this (by decide +kernel)
theorem ph0_tab : ((List.range 49).all fun n => Nat.beq n 0 || Nat.beq (phP n 0).bits 0) = true := by decide +kernel
theorem vQ32 : fin (Fl.of .f32 1048576000) = true ∧ val (Fl.of .f32 1048576000) = 1 / 4 := by decide +kernel
theorem vU32 : fin (Fl.of .f32 1067450368) = true ∧ val (Fl.of .f32 1067450368) = 5 / 4 := by decide +kernel
theorem vO32 : fin (Fl.of .f32 1065353216) = true ∧ val (Fl.of .f32 1065353216) = 1 := by decide +kernel
theorem vZ32 : fin (Fl.of .f32 0) = true ∧ val (Fl.of .f32 0) = 0 := by decide +kernel
theorem ph_good {n j : Nat} (h : j < n) (hn : n ≤ 48) : good64 (phP n j) := by
  obtain ⟨_, j1, j2⟩ := whole_val (N := j) (by omega)
  obtain ⟨_, n1, n2⟩ := whole_val (N := n) (by omega)
  obtain ⟨q0, q1⟩ := frac_le h
  obtain ⟨a1, a2, a3⟩ := div_between (x := fofInt .f64 (j : Int)) (y := fofInt .f64 (n : Int)) j1 n1 vZ.1 vO.1 (by rw [n2]; exact n_ne (by omega)) (by rw [vZ.2, j2, n2]; exact q0) (by rw [vO.2, j2, n2]; exact q1)
  rw [vZ.2] at a2
  rw [vO.2] at a3
  refine ⟨a1, ?_, a2, a3⟩
  by_cases hj : j = 0
  · subst hj
    have := List.all_eq_true.1 ph0_tab n (List.mem_range.2 (by omega))
    rw [Bool.or_eq_true] at this
    rcases this with e | e
    · have := Nat.eq_of_beq_eq_true e; omega
    · have e : (phP n 0).bits = 0 := Nat.eq_of_beq_eq_true e
      unfold sg
      rw [e]
      decide +kernel
  · have hp : (0 : Rat) < (n : Rat) := by
      have : ((0 : Nat) : Rat) < (n : Rat) := Rat.natCast_lt_natCast.2 (by omega)
      exact this
    have hj1 : (1 : Rat) ≤ (j : Rat) := by
      have : ((1 : Nat) : Rat) ≤ (j : Rat) := Rat.natCast_le_natCast.2 (by omega)
      exact this
    have hn48 : (n : Rat) ≤ 64 := by
      have : (n : Rat) ≤ ((64 : Nat) : Rat) := Rat.natCast_le_natCast.2 (by omega)
      exact this
    have v64 : fin (Fl.of .f64 4580160821035794432) = true ∧ val (Fl.of .f64 4580160821035794432) = 1 / 64 := by decide +kernel
    obtain ⟨b1, b2, b3⟩ := div_between (x := fofInt .f64 (j : Int)) (y := fofInt .f64 (n : Int)) j1 n1 v64.1 vO.1 (by rw [n2]; exact n_ne (by omega)) (by rw [v64.2, j2, n2]; refine (le_div_iff' hp).2 ?_; grind) (by rw [vO.2, j2, n2]; exact q1)
    rw [v64.2] at b2
    exact sg_pos a1 (by show 0 < val (fdiv (fofInt .f64 (j : Int)) (fofInt .f64 (n : Int))); grind)
theorem sin_good {n j : Nat} (h : j < n) (hn : n ≤ 48) : good32 (sinP n j) := by
  obtain ⟨⟨j1, j2⟩, _⟩ := whole_val (N := j) (by omega)
  obtain ⟨⟨n1, n2⟩, _⟩ := whole_val (N := n) (by omega)
  obtain ⟨q0, q1⟩ := frac_le h
  obtain ⟨a1, a2, a3⟩ := div_between (x := fofInt .f32 (j : Int)) (y := fofInt .f32 (n : Int)) j1 n1 vZ32.1 vO32.1 (by rw [n2]; exact n_ne (by omega)) (by rw [vZ32.2, j2, n2]; exact q0) (by rw [vO32.2, j2, n2]; exact q1)
  rw [vZ32.2] at a2
  rw [vO32.2] at a3
  obtain ⟨b1, b2, b3⟩ := add_between (x := Fl.of .f32 1048576000) (y := fdiv (fofInt .f32 (j : Int)) (fofInt .f32 (n : Int))) vQ32.1 a1 vQ32.1 vU32.1 (by rw [vQ32.2]; grind) (by rw [vQ32.2, vU32.2]; grind)
  rw [vQ32.2] at b2
  rw [vU32.2] at b3
  exact ⟨b1, by show 0 < val (fadd (Fl.of .f32 1048576000) (fdiv (fofInt .f32 (j : Int)) (fofInt .f32 (n : Int)))); grind, by show val (fadd (Fl.of .f32 1048576000) (fdiv (fofInt .f32 (j : Int)) (fofInt .f32 (n : Int)))) ≤ 2; grind⟩
noncomputable def phV (n j : Nat) : Fl .f32 × Fl .f32 := (phG (phP n j)).getD (dN, dN)
noncomputable def siV (n j : Nat) : Fl .f32 := (sin32G (sinP n j)).getD dN
theorem ph_at {n j : Nat} (h : j < n) (hn : n ≤ 48) : phG (phP n j) = some (phV n j) := by
  obtain ⟨z, e⟩ := ph_ex (ph_good h hn)
  unfold phV
  rw [e]; rfl
theorem si_at {n j : Nat} (h : j < n) (hn : n ≤ 48) : sin32G (sinP n j) = some (siV n j) := by
  obtain ⟨z, e⟩ := sin32_ex (sin_good h hn)
  unfold siV
  rw [e]; rfl
def halfB (x : HaT) : Bool := fin x.1.1 && (fin x.1.2 && fin x.2)
def halfG (x : HaT) : Option Bool := some (halfB x)
def halfS : FSpec := ⟨[HaD], [.bool], halfG⟩
def halfPG (x : HaT) : Option Bool := halfG x
def halfPS : FSpec := ⟨[.ptr HaD], [.bool], halfPG⟩
def loops_IsHalf (_ _ _ : Nat) : Option LSpec := none
noncomputable def ss_IsHalf : List (Nat × FSpec) := [(106, finS)]
theorem ssOk_IsHalf : FTolds Try.prog ss_IsHalf := ⟨s_IsFinite, trivial⟩
noncomputable def Γ_IsHalf : Ctx := ctxOf Try.prog tys fs ss_IsHalf loops_IsHalf
noncomputable def d_IsHalf (a b c : Fl .f32) : Option (Bool) := Option.bind (finG a) fun (r0 : Bool) => (bif r0 then (Option.bind (finG b) fun (r1 : Bool) => (bif r1 then (Option.bind (finG c) fun (r2 : Bool) => (some (r2))) else (some (false)))) else (some (false)))
theorem t_IsHalf (a b c : Fl .f32) : (fnT Γ_IsHalf 10 109 [HaD] [.bool] ((a, b), c)).den = d_IsHalf a b c := by kernel_rfl
theorem p_IsHalf (a b c : Fl .f32) (r : Bool) (h : halfG ((a, b), c) = some r) : d_IsHalf a b c = some r := by
  refine Eq.trans ?_ h
  unfold d_IsHalf halfG halfB finG
  simp only [Option.bind_some]
  cases fin a <;> cases fin b <;> rfl
theorem s_IsHalf : FTold Try.prog 109 halfS := walkedF (fs := fs) (ss := ss_IsHalf) (loop := loops_IsHalf) tysOk mixed fnsOk ssOk_IsHalf 10 109 [HaD] [.bool] rfl _ fun ((a, b), c) r h => (t_IsHalf a b c).trans (p_IsHalf a b c r h)
def loops_l06Half (_ _ _ : Nat) : Option LSpec := none
noncomputable def ss_l06Half : List (Nat × FSpec) := [(102, finS)]
theorem ssOk_l06Half : FTolds Try.prog ss_l06Half := ⟨s_l01Finite, trivial⟩
noncomputable def Γ_l06Half : Ctx := ctxOf Try.prog tys fs ss_l06Half loops_l06Half
noncomputable def d_l06Half (a b c : Fl .f32) : Option (Bool) := Option.bind (finG a) fun (r0 : Bool) => (bif r0 then (Option.bind (finG b) fun (r1 : Bool) => (bif r1 then (Option.bind (finG c) fun (r2 : Bool) => (some (r2))) else (some (false)))) else (some (false)))
theorem t_l06Half (a b c : Fl .f32) : (fnT Γ_l06Half 10 105 [.ptr HaD] [.bool] ((a, b), c)).den = d_l06Half a b c := by kernel_rfl
theorem p_l06Half (a b c : Fl .f32) (r : Bool) (h : halfPG ((a, b), c) = some r) : d_l06Half a b c = some r := by
  refine Eq.trans ?_ h
  unfold d_l06Half halfPG halfG halfB finG
  simp only [Option.bind_some]
  cases fin a <;> cases fin b <;> rfl
theorem s_l06Half : FTold Try.prog 105 halfPS := walkedF (fs := fs) (ss := ss_l06Half) (loop := loops_l06Half) tysOk mixed fnsOk ssOk_l06Half 10 105 [.ptr HaD] [.bool] rfl _ fun ((a, b), c) r h => (t_l06Half a b c).trans (p_l06Half a b c r h)
noncomputable def haV (n m : Nat) (t : Fl .f32) (k : Nat) : HaT := (phV n k, fadd (Fl.of .f32 1065353216) (fmul t (siV n (k * m % n))))
noncomputable def haL (n m : Nat) (t : Fl .f32) (k : Nat) : List HaT := mapR (haV n m t) k
def haOk (n m : Int) (t : Fl .f32) : Prop := (1 ≤ n ∧ n ≤ 48) ∧ (0 ≤ m ∧ m ≤ 12) ∧ fin t = true ∧ ∀ k, k < n.toNat → halfB (haV n.toNat m.toNat t k) = true
open Classical in
noncomputable def haF (n m : Int) (t : Fl .f32) : List HaT × Bool := if haOk n m t then (haL n.toNat m.toNat t n.toNat, true) else ([], false)
theorem ha_no {n m : Int} {t : Fl .f32} (h : ¬ haOk n m t) : haF n m t = ([], false) := if_neg h
theorem ha_yes {n m : Int} {t : Fl .f32} (h : haOk n m t) : haF n m t = (haL n.toNat m.toNat t n.toNat, true) := if_pos h
noncomputable def haG (x : Int × Int × Fl .f32) : Option (List HaT × Bool) := some (haF x.1 x.2.1 x.2.2)
noncomputable def haS : FSpec := ⟨[I64, I64, F32], [.list HaE, .bool], haG⟩
theorem haL_len (n m : Nat) (t : Fl .f32) (k : Nat) : (haL n m t k).length = k := mapR_len _ _
theorem sub_haL (n m : Nat) (t : Fl .f32) (k : Nat) : sub (haL n m t k) 0 k = haL n m t k := by have := sub_all (haL n m t k); rw [haL_len] at this; exact this
theorem haL_succ (n m : Nat) (t : Fl .f32) (k : Nat) : haL n m t k ++ [haV n m t k] = haL n m t (k + 1) := (mapR_succ _ _).symm
theorem km_mod {n m k : Nat} (hk : k < n) (hn : n ≤ 48) (hm : m ≤ 12) : (IntKind.i64.wrap ((k : Int) * (m : Int))).tmod (n : Int) = ((k * m % n : Nat) : Int) := by
  have h1 : k * m ≤ 48 * 12 := Nat.mul_le_mul (by omega) hm
  have e : (k : Int) * (m : Int) = ((k * m : Nat) : Int) := by rw [Int.natCast_mul]
  rw [e, wrap64 (by omega) (by omega), Int.tmod_eq_emod_of_nonneg (by omega)]
  rfl
def L_HalfS_1 : LSpec := ⟨[0, 1, 2, 8, 9], ⟨Shs.at 61 [(0, (.int IntKind.i64)), (1, (.int IntKind.i64)), (2, (.flt FloatKind.f32)), (8, (.slc 2146435392)), (9, (.int IntKind.i64))], [(2146435392, (.arr true ((EK.cpx FloatKind.f32).pair (EK.flt FloatKind.f32))))]⟩, [⟨.ret, [6, 7], ⟨Shs.at 61 [(6, (.slc 2146435392)), (7, .bool)], [(2146435392, (.arr true ((EK.cpx FloatKind.f32).pair (EK.flt FloatKind.f32))))]⟩⟩, ⟨.ext 0, [8], ⟨Shs.at 61 [(8, (.slc 2146435392))], [(2146435392, (.arr true ((EK.cpx FloatKind.f32).pair (EK.flt FloatKind.f32))))]⟩⟩], fun _ => bigN⟩
def loops_HalfS (f k n : Nat) : Option LSpec := bif (Nat.beq f 34 && Nat.beq k 5 && Nat.beq n 1) then some L_HalfS_1 else none
abbrev S_HalfS_1 : Type := ((Int × (Int × ((Fl .f32) × (Nat × (Int × Unit))))) × ((List (((Fl .f32) × (Fl .f32)) × (Fl .f32))) × Unit))
abbrev R_HalfS_1 : Type := (((Nat × (Bool × Unit)) × ((List (((Fl .f32) × (Fl .f32)) × (Fl .f32))) × Unit)) ⊕ ((Nat × Unit) × ((List (((Fl .f32) × (Fl .f32)) × (Fl .f32))) × Unit)))
noncomputable def B_HalfS_1 (y : S_HalfS_1) : Option (S_HalfS_1 ⊕ R_HalfS_1) := bif decide (y.1.2.2.2.2.1 < y.1.1) then (Option.bind (phG (fdiv (fofInt .f64 y.1.2.2.2.2.1) (fofInt .f64 y.1.1))) fun (r4 : ((Fl .f32) × (Fl .f32))) => (bif y.1.1 != 0 then (Option.bind (sin32G (fadd (Fl.of .f32 1048576000) (fdiv (fofInt .f32 ((IntKind.i64.wrap (y.1.2.2.2.2.1 * y.1.2.1)).tmod y.1.1)) (fofInt .f32 y.1.1)))) fun (r5 : (Fl .f32)) => (Option.bind (halfPG ((r4.1, r4.2), fadd (Fl.of .f32 1065353216) (fmul y.1.2.2.1 r5))) fun (r6 : Bool) => (bif !r6 then (some (Sum.inr (Sum.inl (((0, (false, ())), ([], ())))))) else (bif decide (y.1.2.2.2.1 + 1 ≤ maxA) then (some (Sum.inl (((y.1.1, (y.1.2.1, (y.1.2.2.1, ((sub y.2.1 0 y.1.2.2.2.1 ++ [((r4.1, r4.2), fadd (Fl.of .f32 1065353216) (fmul y.1.2.2.1 r5))]).length, (IntKind.i64.wrap (y.1.2.2.2.2.1 + 1), ()))))), (sub y.2.1 0 y.1.2.2.2.1 ++ [((r4.1, r4.2), fadd (Fl.of .f32 1065353216) (fmul y.1.2.2.1 r5))], ()))))) else (none))))) else (none))) else (some (Sum.inr (Sum.inr (((y.1.2.2.2.1, ()), (y.2.1, ()))))))
noncomputable def ss_HalfS : List (Nat × FSpec) := [(77, withinS), (102, finS), (104, sin32S), (103, phS), (105, halfPS)]
theorem ssOk_HalfS : FTolds Try.prog ss_HalfS := ⟨s_l00In, s_l01Finite, s_l01Sine, s_PhS, s_l06Half, trivial⟩
noncomputable def Γ_HalfS : Ctx := ctxOf Try.prog tys fs ss_HalfS loops_HalfS
noncomputable def d_HalfS (n m : Int) (t : Fl .f32) : Option (((List (((Fl .f32) × (Fl .f32)) × (Fl .f32))) × Bool)) := Option.bind (withinG (n, 1, 48)) fun (r0 : Bool) => (bif !r0 then (some (([], false))) else (Option.bind (withinG (m, 0, 12)) fun (r1 : Bool) => (bif !r1 then (some (([], false))) else (Option.bind (finG t) fun (r2 : Bool) => (bif !r2 then (some (([], false))) else (Option.bind (iter B_HalfS_1 bigN (((n, (m, (t, (0, (0, ()))))), ([], ())))) fun (r3 : (((Nat × (Bool × Unit)) × ((List (((Fl .f32) × (Fl .f32)) × (Fl .f32))) × Unit)) ⊕ ((Nat × Unit) × ((List (((Fl .f32) × (Fl .f32)) × (Fl .f32))) × Unit)))) => (match r3 with | .inl x7 => (some ((sub x7.2.1 0 x7.1.1, x7.1.2.1))) | .inr x7 => (some ((sub x7.2.1 0 x7.1.1, true))))))))))
theorem t_HalfS (n m : Int) (t : Fl .f32) : (fnT Γ_HalfS 10 34 [I64, I64, F32] [.list HaE, .bool] (n, m, t)).den = d_HalfS n m t := by kernel_rfl
theorem ha_case {n m : Int} {t : Fl .f32} (h1 : 1 ≤ n ∧ n ≤ 48) (h2 : 0 ≤ m ∧ m ≤ 12) (h3 : fin t = true) : haOk n m t ↔ ∀ k, k < n.toNat → halfB (haV n.toNat m.toNat t k) = true := ⟨fun h => h.2.2.2, fun h => ⟨h1, h2, h3, h⟩⟩
theorem loopHS {n m : Nat} {t : Fl .f32} (hn0 : 1 ≤ n) (hn : n ≤ 48) (hm : m ≤ 12) : iter B_HalfS_1 bigN (((n : Int), ((m : Int), (t, (0, (0, ()))))), ([], ())) = some ((firstOf (fun k => if halfB (haV n m t k) = true then none else some (.inl ((0, (false, ())), ([], ())))) (n - 0) 0).getD (.inr ((n, ()), (haL n m t n, ())))) :=
  iter_find' (B := B_HalfS_1) (fun k => (((n : Int), ((m : Int), (t, (k, ((k : Int), ()))))), (haL n m t k, ()))) 0 n (fun k => if halfB (haV n m t k) = true then none else some (.inl ((0, (false, ())), ([], ())))) (.inr ((n, ()), (haL n m t n, ()))) (Nat.zero_le _) (by omega) (fun k _ hk => by
    have p1 : phG (fdiv (fofInt .f64 (k : Int)) (fofInt .f64 (n : Int))) = some (phV n k) := ph_at hk hn
    have p2 : sin32G (fadd (Fl.of .f32 1048576000) (fdiv (fofInt .f32 ((k * m % n : Nat) : Int)) (fofInt .f32 (n : Int)))) = some (siV n (k * m % n)) := si_at (Nat.mod_lt _ (by omega)) hn
    have z : ((n : Int) != 0) = true := by simp; omega
    unfold B_HalfS_1
    simp only [ltT hk, cond_true, z, p1, km_mod hk hn hm, p2, Option.bind_some]
    have p3 : halfPG (((phV n k).1, (phV n k).2), fadd (Fl.of .f32 1065353216) (fmul t (siV n (k * m % n)))) = some (halfB (haV n m t k)) := rfl
    simp only [p3, Option.bind_some]
    by_cases e : halfB (haV n m t k) = true
    · rw [if_pos e, e]
      have q : (((phV n k).1, (phV n k).2), fadd (Fl.of .f32 1065353216) (fmul t (siV n (k * m % n)))) = haV n m t k := rfl
      simp only [Bool.not_true, cond_false, maxA_one (show k < 2 ^ 30 by omega), cond_true, sub_haL, q, haL_succ, haL_len, inc64 hk (show n < 2 ^ 62 by omega)]
    · rw [if_neg e, Bool.eq_false_iff.2 e]; rfl) (by
    unfold B_HalfS_1
    simp only [ltF, cond_false])
theorem p_HalfS (n m : Int) (t : Fl .f32) (r : ((List (((Fl .f32) × (Fl .f32)) × (Fl .f32))) × Bool)) (h : haG (n, m, t) = some r) : d_HalfS n m t = some r := by
  cases h
  unfold d_HalfS withinG finG
  simp only [Option.bind_some]
  by_cases h1 : 1 ≤ n ∧ n ≤ 48
  case neg => rw [ha_no fun z => h1 z.1, show (decide (1 ≤ n) && decide (n ≤ 48)) = false from Bool.eq_false_iff.2 fun w => h1 (and2.1 w)]; rfl
  by_cases h2 : 0 ≤ m ∧ m ≤ 12
  case neg => rw [ha_no fun z => h2 z.2.1, and2.2 h1, show (decide (0 ≤ m) && decide (m ≤ 12)) = false from Bool.eq_false_iff.2 fun w => h2 (and2.1 w)]; rfl
  cases h3 : fin t with
  | false => rw [ha_no fun z => (by have := z.2.2.1; rw [h3] at this; cases this), and2.2 h1, and2.2 h2]; rfl
  | true =>
  have hc := ha_case h1 h2 h3
  have hy : haOk n m t → haF n m t = (haL n.toNat m.toNat t n.toNat, true) := ha_yes
  obtain ⟨j, rfl⟩ : ∃ j : Nat, n = j := ⟨n.toNat, by omega⟩
  obtain ⟨i, rfl⟩ : ∃ i : Nat, m = i := ⟨m.toNat, by omega⟩
  rw [Int.toNat_natCast, Int.toNat_natCast] at hc hy
  rw [and2.2 h1, and2.2 h2]
  simp only [Bool.not_true, cond_false]
  refine (congrArg (fun z => Option.bind z _) (show iter B_HalfS_1 bigN _ = _ from loopHS (n := j) (m := i) (t := t) (by omega) (by omega) (by omega))).trans ?_
  rcases firstOf_const (fun k => halfB (haV j i t k)) (.inl ((0, (false, ())), ([], ())) : R_HalfS_1) (j - 0) 0 with ⟨z, hall⟩ | ⟨z, k, _, hk, hbad⟩
  · rw [z, hy (hc.2 fun k hk => hall k (Nat.zero_le _) (by omega))]
    simp only [Option.getD_none, Option.bind_some, sub_haL]
  · rw [z, ha_no fun w => by have := hc.1 w k (by omega); rw [hbad] at this; cases this]
    rfl
theorem s_HalfS : FTold Try.prog 34 haS := walkedF (fs := fs) (ss := ss_HalfS) (loop := loops_HalfS) tysOk mixed fnsOk ssOk_HalfS 10 34 [I64, I64, F32] [.list HaE, .bool] rfl _ fun (n, m, t) r h => (t_HalfS n m t).trans (p_HalfS n m t r h)
def L_HalfI_1 : LSpec := ⟨[0, 1, 2, 8, 26, 27], ⟨Shs.at 61 [(0, (.int IntKind.i64)), (1, (.int IntKind.i64)), (2, (.flt FloatKind.f32)), (8, (.slc 2146435392)), (26, (.int IntKind.i64)), (27, (.int IntKind.i64))], [(2146435392, (.arr true ((EK.cpx FloatKind.f32).pair (EK.flt FloatKind.f32))))]⟩, [⟨.ret, [6, 7], ⟨Shs.at 61 [(6, (.slc 2146435392)), (7, .bool)], [(2146435392, (.arr true ((EK.cpx FloatKind.f32).pair (EK.flt FloatKind.f32))))]⟩⟩, ⟨.ext 0, [8], ⟨Shs.at 61 [(8, (.slc 2146435392))], [(2146435392, (.arr true ((EK.cpx FloatKind.f32).pair (EK.flt FloatKind.f32))))]⟩⟩], fun _ => bigN⟩
def loops_HalfI (f k n : Nat) : Option LSpec := bif (Nat.beq f 35 && Nat.beq k 5 && Nat.beq n 1) then some L_HalfI_1 else none
abbrev S_HalfI_1 : Type := ((Int × (Int × ((Fl .f32) × (Nat × (Int × (Int × Unit)))))) × ((List (((Fl .f32) × (Fl .f32)) × (Fl .f32))) × Unit))
abbrev R_HalfI_1 : Type := (((Nat × (Bool × Unit)) × ((List (((Fl .f32) × (Fl .f32)) × (Fl .f32))) × Unit)) ⊕ ((Nat × Unit) × ((List (((Fl .f32) × (Fl .f32)) × (Fl .f32))) × Unit)))
noncomputable def B_HalfI_1 (y : S_HalfI_1) : Option (S_HalfI_1 ⊕ R_HalfI_1) := bif decide (y.1.2.2.2.2.2.1 < y.1.2.2.2.2.1) then (bif y.1.1 != 0 then (Option.bind (phG (fdiv (fofInt .f64 y.1.2.2.2.2.2.1) (fofInt .f64 y.1.1))) fun (r4 : ((Fl .f32) × (Fl .f32))) => (Option.bind (sin32G (fadd (Fl.of .f32 1048576000) (fdiv (fofInt .f32 ((IntKind.i64.wrap (y.1.2.2.2.2.2.1 * y.1.2.1)).tmod y.1.1)) (fofInt .f32 y.1.1)))) fun (r5 : (Fl .f32)) => (Option.bind (halfG ((r4.1, r4.2), fadd (Fl.of .f32 1065353216) (fmul y.1.2.2.1 r5))) fun (r6 : Bool) => (bif !r6 then (some (Sum.inr (Sum.inl (((0, (false, ())), ([], ())))))) else (bif decide (y.1.2.2.2.1 + 1 ≤ maxA) then (some (Sum.inl (((y.1.1, (y.1.2.1, (y.1.2.2.1, ((sub y.2.1 0 y.1.2.2.2.1 ++ [((r4.1, r4.2), fadd (Fl.of .f32 1065353216) (fmul y.1.2.2.1 r5))]).length, (y.1.2.2.2.2.1, (IntKind.i64.wrap (y.1.2.2.2.2.2.1 + 1), ())))))), (sub y.2.1 0 y.1.2.2.2.1 ++ [((r4.1, r4.2), fadd (Fl.of .f32 1065353216) (fmul y.1.2.2.1 r5))], ()))))) else (none)))))) else (none)) else (some (Sum.inr (Sum.inr (((y.1.2.2.2.1, ()), (y.2.1, ()))))))
noncomputable def ss_HalfI : List (Nat × FSpec) := [(84, withinS), (106, finS), (108, sin32S), (107, phS), (109, halfS)]
theorem ssOk_HalfI : FTolds Try.prog ss_HalfI := ⟨s_within, s_IsFinite, s_SineI, s_PhI, s_IsHalf, trivial⟩
noncomputable def Γ_HalfI : Ctx := ctxOf Try.prog tys fs ss_HalfI loops_HalfI
noncomputable def d_HalfI (n m : Int) (t : Fl .f32) : Option (((List (((Fl .f32) × (Fl .f32)) × (Fl .f32))) × Bool)) := Option.bind (withinG (n, 1, 48)) fun (r0 : Bool) => (bif !r0 then (some (([], false))) else (Option.bind (withinG (m, 0, 12)) fun (r1 : Bool) => (bif !r1 then (some (([], false))) else (Option.bind (finG t) fun (r2 : Bool) => (bif !r2 then (some (([], false))) else (Option.bind (iter B_HalfI_1 bigN (((n, (m, (t, (0, (n, (0, ())))))), ([], ())))) fun (r3 : (((Nat × (Bool × Unit)) × ((List (((Fl .f32) × (Fl .f32)) × (Fl .f32))) × Unit)) ⊕ ((Nat × Unit) × ((List (((Fl .f32) × (Fl .f32)) × (Fl .f32))) × Unit)))) => (match r3 with | .inl x7 => (some ((sub x7.2.1 0 x7.1.1, x7.1.2.1))) | .inr x7 => (some ((sub x7.2.1 0 x7.1.1, true))))))))))
theorem t_HalfI (n m : Int) (t : Fl .f32) : (fnT Γ_HalfI 10 35 [I64, I64, F32] [.list HaE, .bool] (n, m, t)).den = d_HalfI n m t := by kernel_rfl
theorem loopHI {n m : Nat} {t : Fl .f32} (hn0 : 1 ≤ n) (hn : n ≤ 48) (hm : m ≤ 12) : iter B_HalfI_1 bigN (((n : Int), ((m : Int), (t, (0, ((n : Int), (0, ())))))), ([], ())) = some ((firstOf (fun k => if halfB (haV n m t k) = true then none else some (.inl ((0, (false, ())), ([], ())))) (n - 0) 0).getD (.inr ((n, ()), (haL n m t n, ())))) :=
  iter_find' (B := B_HalfI_1) (fun k => (((n : Int), ((m : Int), (t, (k, ((n : Int), ((k : Int), ())))))), (haL n m t k, ()))) 0 n (fun k => if halfB (haV n m t k) = true then none else some (.inl ((0, (false, ())), ([], ())))) (.inr ((n, ()), (haL n m t n, ()))) (Nat.zero_le _) (by omega) (fun k _ hk => by
    have p1 : phG (fdiv (fofInt .f64 (k : Int)) (fofInt .f64 (n : Int))) = some (phV n k) := ph_at hk hn
    have p2 : sin32G (fadd (Fl.of .f32 1048576000) (fdiv (fofInt .f32 ((k * m % n : Nat) : Int)) (fofInt .f32 (n : Int)))) = some (siV n (k * m % n)) := si_at (Nat.mod_lt _ (by omega)) hn
    have z : ((n : Int) != 0) = true := by simp; omega
    unfold B_HalfI_1
    simp only [ltT hk, cond_true, z, p1, km_mod hk hn hm, p2, Option.bind_some]
    have p3 : halfG (((phV n k).1, (phV n k).2), fadd (Fl.of .f32 1065353216) (fmul t (siV n (k * m % n)))) = some (halfB (haV n m t k)) := rfl
    simp only [p3, Option.bind_some]
    by_cases e : halfB (haV n m t k) = true
    · rw [if_pos e, e]
      have q : (((phV n k).1, (phV n k).2), fadd (Fl.of .f32 1065353216) (fmul t (siV n (k * m % n)))) = haV n m t k := rfl
      simp only [Bool.not_true, cond_false, maxA_one (show k < 2 ^ 30 by omega), cond_true, sub_haL, q, haL_succ, haL_len, inc64 hk (show n < 2 ^ 62 by omega)]
    · rw [if_neg e, Bool.eq_false_iff.2 e]; rfl) (by
    unfold B_HalfI_1
    simp only [ltF, cond_false])
theorem p_HalfI (n m : Int) (t : Fl .f32) (r : ((List (((Fl .f32) × (Fl .f32)) × (Fl .f32))) × Bool)) (h : haG (n, m, t) = some r) : d_HalfI n m t = some r := by
  cases h
  unfold d_HalfI withinG finG
  simp only [Option.bind_some]
  by_cases h1 : 1 ≤ n ∧ n ≤ 48
  case neg => rw [ha_no fun z => h1 z.1, show (decide (1 ≤ n) && decide (n ≤ 48)) = false from Bool.eq_false_iff.2 fun w => h1 (and2.1 w)]; rfl
  by_cases h2 : 0 ≤ m ∧ m ≤ 12
  case neg => rw [ha_no fun z => h2 z.2.1, and2.2 h1, show (decide (0 ≤ m) && decide (m ≤ 12)) = false from Bool.eq_false_iff.2 fun w => h2 (and2.1 w)]; rfl
  cases h3 : fin t with
  | false => rw [ha_no fun z => (by have := z.2.2.1; rw [h3] at this; cases this), and2.2 h1, and2.2 h2]; rfl
  | true =>
  have hc := ha_case h1 h2 h3
  have hy : haOk n m t → haF n m t = (haL n.toNat m.toNat t n.toNat, true) := ha_yes
  obtain ⟨j, rfl⟩ : ∃ j : Nat, n = j := ⟨n.toNat, by omega⟩
  obtain ⟨i, rfl⟩ : ∃ i : Nat, m = i := ⟨m.toNat, by omega⟩
  rw [Int.toNat_natCast, Int.toNat_natCast] at hc hy
  rw [and2.2 h1, and2.2 h2]
  simp only [Bool.not_true, cond_false]
  refine (congrArg (fun z => Option.bind z _) (show iter B_HalfI_1 bigN _ = _ from loopHI (n := j) (m := i) (t := t) (by omega) (by omega) (by omega))).trans ?_
  rcases firstOf_const (fun k => halfB (haV j i t k)) (.inl ((0, (false, ())), ([], ())) : R_HalfI_1) (j - 0) 0 with ⟨z, hall⟩ | ⟨z, k, _, hk, hbad⟩
  · rw [z, hy (hc.2 fun k hk => hall k (Nat.zero_le _) (by omega))]
    simp only [Option.getD_none, Option.bind_some, sub_haL]
  · rw [z, ha_no fun w => by have := hc.1 w k (by omega); rw [hbad] at this; cases this]
    rfl
theorem s_HalfI : FTold Try.prog 35 haS := walkedF (fs := fs) (ss := ss_HalfI) (loop := loops_HalfI) tysOk mixed fnsOk ssOk_HalfI 10 35 [I64, I64, F32] [.list HaE, .bool] rfl _ fun (n, m, t) r h => (t_HalfI n m t).trans (p_HalfI n m t r h)
theorem ha_len (n m : Int) (t : Fl .f32) : (haF n m t).1.length ≤ 48 := by
  by_cases h : haOk n m t
  · rw [ha_yes h, haL_len]
    have := h.1.2
    omega
  · rw [ha_no h]; exact Nat.zero_le _
end Go.Proofs.Ytjggcekliaalgaa
