/- Hops. No condition. -/
import Derived.Test.YtjggcekliaalgaaH4
namespace Go.Proofs.Ytjggcekliaalgaa
open Go.Ab
def minF (x y : Int) : Int := if x ≤ y then x else y
def minG (x : Int × Int) : Option Int := some (minF x.1 x.2)
def minS : FSpec := ⟨[I64, I64], [I64], minG⟩
def loops_min1 (_ _ _ : Nat) : Option LSpec := none
noncomputable def ss_min1 : List (Nat × FSpec) := []
theorem ssOk_min1 : FTolds Try.prog ss_min1 := trivial
noncomputable def Γ_min1 : Ctx := ctxOf Try.prog tys fs ss_min1 loops_min1
noncomputable def d_min1 (x y : Int) : Option (Int) := some (maxN false x y)
theorem t_min1 (x y : Int) : (fnT Γ_min1 10 184 [I64, I64] [I64] (x, y)).den = d_min1 x y := by kernel_rfl
theorem p_min1 (x y : Int) (r : Int) (h : minG (x, y) = some r) : d_min1 x y = some r := by
  refine Eq.trans ?_ h
  unfold d_min1 minG minF maxN
  simp only [Bool.false_eq_true, if_false]
  congr 1
  split <;> split <;> omega
theorem s_min1 : FTold Try.prog 184 minS := walkedF (fs := fs) (ss := ss_min1) (loop := loops_min1) tysOk mixed fnsOk ssOk_min1 10 184 [I64, I64] [I64] rfl _ fun (x, y) r h => (t_min1 x y).trans (p_min1 x y r h)
def loops_min2 (_ _ _ : Nat) : Option LSpec := none
noncomputable def ss_min2 : List (Nat × FSpec) := []
theorem ssOk_min2 : FTolds Try.prog ss_min2 := trivial
noncomputable def Γ_min2 : Ctx := ctxOf Try.prog tys fs ss_min2 loops_min2
noncomputable def d_min2 (x y : Int) : Option (Int) := bif decide (x < y) then (some (x)) else (some (y))
theorem t_min2 (x y : Int) : (fnT Γ_min2 10 181 [I64, I64] [I64] (x, y)).den = d_min2 x y := by kernel_rfl
theorem p_min2 (x y : Int) (r : Int) (h : minG (x, y) = some r) : d_min2 x y = some r := by
  refine Eq.trans ?_ h
  unfold d_min2 minG minF
  by_cases c : x < y
  · rw [decide_eq_true c, if_pos (by omega)]; rfl
  · rw [decide_eq_false c]
    show some y = some (if x ≤ y then x else y)
    congr 1
    split <;> omega
theorem s_min2 : FTold Try.prog 181 minS := walkedF (fs := fs) (ss := ss_min2) (loop := loops_min2) tysOk mixed fnsOk ssOk_min2 10 181 [I64, I64] [I64] rfl _ fun (x, y) r h => (t_min2 x y).trans (p_min2 x y r h)
theorem min_b {x y p q : Int} (h1 : p ≤ x) (h2 : x ≤ q) (h3 : p ≤ y) (h4 : y ≤ q) : p ≤ minF x y ∧ minF x y ≤ q := by
  unfold minF
  split <;> omega
def bterm (w g : Int) (l : LI) (i : Nat) : Int := minF (l.getD i 0) (ownF w g l ((i : Int) % w + 1) ((i : Int) / w)) + minF (l.getD i 0) (ownF w g l ((i : Int) % w) ((i : Int) / w + 1))
def sumR (f : Nat → Int) : Nat → Int
  | 0 => 0
  | n + 1 => sumR f n + f n
theorem bterm_b {w g : Int} {l : LI} (ha : areB 0 1000 l = true) (i : Nat) : 0 ≤ bterm w g l i ∧ bterm w g l i ≤ 2000 := by
  have a := are_get ha (by decide) (by decide) i
  have b := are_get ha (by decide) (by decide) (cellF w g ((i : Int) % w + 1) ((i : Int) / w)).toNat
  have c := are_get ha (by decide) (by decide) (cellF w g ((i : Int) % w) ((i : Int) / w + 1)).toNat
  have p := min_b a.1 a.2 b.1 b.2
  have q := min_b a.1 a.2 c.1 c.2
  unfold bterm ownF
  omega
theorem sum_b {w g : Int} {l : LI} (ha : areB 0 1000 l = true) : ∀ n : Nat, 0 ≤ sumR (bterm w g l) n ∧ sumR (bterm w g l) n ≤ 2000 * (n : Int)
  | 0 => ⟨Int.le_refl _, Int.le_refl _⟩
  | n + 1 => by
    have h := sum_b (w := w) (g := g) ha n
    have t := bterm_b (w := w) (g := g) ha n
    show 0 ≤ sumR (bterm w g l) n + bterm w g l n ∧ sumR (bterm w g l) n + bterm w g l n ≤ 2000 * ((n + 1 : Nat) : Int)
    omega
def bondsF (w g : Int) (l : LI) : Int := sumR (bterm w g l) l.length
def bondsG (x : HT) : Option Int := if okH x then some (bondsF x.1 x.2.1 x.2.2) else none
def bondsS : FSpec := ⟨[HD], [I64], bondsG⟩
def bondsPG (x : HT) : Option Int := bondsG x
def bondsPS : FSpec := ⟨[.ptr HD], [I64], bondsPG⟩
theorem bonds_b {w g : Int} {l : LI} (h : okH (w, g, l)) : 0 ≤ bondsF w g l ∧ bondsF w g l ≤ 512000 := by
  obtain ⟨z, hl, ha⟩ := h
  have wg := wg_b z
  have ha : areB 0 1000 l = true := ha
  have s := sum_b (w := w) (g := g) ha l.length
  have hl : (l.length : Int) = w * g := hl
  have wg : 4 ≤ w * g ∧ w * g ≤ 256 := wg
  unfold bondsF
  omega
def L_bonds_1 : LSpec := ⟨[1, 2, 5, 11, 12, 13], ⟨Shs.at 47 [(1, (.fn (Fn.func 184) .nil .nil)), (2, (.ptr 1105953030336 0 0)), (5, (.int IntKind.i64)), (11, (.slc 2)), (12, (.int IntKind.i64)), (13, (.int IntKind.i64))], [(2, (.arr false (EK.int IntKind.i64))), (1026, (.vals true (.cons (.int IntKind.i64) (.cons (.int IntKind.i64) (.cons (.slc 2) .nil))))), (1105953030336, (.vals true (.cons (.int IntKind.i64) (.cons (.int IntKind.i64) (.cons (.slc 2) .nil)))))]⟩, [⟨.ext 0, [5], ⟨Shs.at 47 [(5, (.int IntKind.i64))], [(2, (.arr false (EK.int IntKind.i64))), (1026, (.vals true (.cons (.int IntKind.i64) (.cons (.int IntKind.i64) (.cons (.slc 2) .nil)))))]⟩⟩], fun _ => bigN⟩
def loops_bonds (f k n : Nat) : Option LSpec := bif (Nat.beq f 183 && Nat.beq k 3 && Nat.beq n 1029) then some L_bonds_1 else none
abbrev S_bonds_1 : Type := (((Unit × Unit) × (Int × (Nat × (Int × (Int × Unit))))) × ((List Int) × ((Int × (Int × (Nat × Unit))) × ((Int × (Int × (Nat × Unit))) × Unit))))
abbrev R_bonds_1 : Type := ((Int × Unit) × ((List Int) × ((Int × (Int × (Nat × Unit))) × Unit)))
noncomputable def B_bonds_1 (y : S_bonds_1) : Option (S_bonds_1 ⊕ R_bonds_1) := bif decide (y.1.2.2.2.2.1 < y.1.2.2.2.1) then (bif inB y.1.2.2.2.2.1 y.1.2.2.1 then (bif y.2.2.2.1.1 != 0 then (bif y.2.2.2.1.1 != 0 then (Option.bind (topG ((y.2.2.2.1.1, y.2.2.2.1.2.1, sub y.2.1 0 y.2.2.2.1.2.2.1), IntKind.i64.wrap (Int.tmod y.1.2.2.2.2.1 y.2.2.2.1.1 + 1), IntKind.i64.wrap (Int.tdiv y.1.2.2.2.2.1 y.2.2.2.1.1))) fun (r1 : Int) => (Option.bind (minG (List.getD y.2.1 (0 + Int.toNat y.1.2.2.2.2.1) (0 : Int), r1)) fun (r2 : Int) => (Option.bind (topG ((y.2.2.2.1.1, y.2.2.2.1.2.1, sub y.2.1 0 y.2.2.2.1.2.2.1), Int.tmod y.1.2.2.2.2.1 y.2.2.2.1.1, IntKind.i64.wrap (IntKind.i64.wrap (Int.tdiv y.1.2.2.2.2.1 y.2.2.2.1.1) + 1))) fun (r3 : Int) => (Option.bind (minG (List.getD y.2.1 (0 + Int.toNat y.1.2.2.2.2.1) (0 : Int), r3)) fun (r4 : Int) => (some (Sum.inl (((((), ()), (IntKind.i64.wrap (y.1.2.1 + IntKind.i64.wrap (r2 + r4)), (y.1.2.2.1, (y.1.2.2.2.1, (IntKind.i64.wrap (y.1.2.2.2.2.1 + 1), ()))))), (y.2.1, ((y.2.2.1.1, (y.2.2.1.2.1, (y.2.2.1.2.2.1, ()))), ((y.2.2.2.1.1, (y.2.2.2.1.2.1, (y.2.2.2.1.2.2.1, ()))), ()))))))))))) else (none)) else (none)) else (none)) else (some (Sum.inr (((y.1.2.1, ()), (y.2.1, ((y.2.2.1.1, (y.2.2.1.2.1, (y.2.2.1.2.2.1, ()))), ()))))))
noncomputable def ss_bonds : List (Nat × FSpec) := [(73, topS), (184, minS)]
theorem ssOk_bonds : FTolds Try.prog ss_bonds := ⟨s_top, s_min1, trivial⟩
noncomputable def Γ_bonds : Ctx := ctxOf Try.prog tys fs ss_bonds loops_bonds
noncomputable def d_bonds (w g : Int) (l : LI) : Option (Int) := Option.bind (iter B_bonds_1 bigN (((((), ()), (0, (List.length l, (((List.length l : Nat) : Int), (0, ()))))), (l, ((w, (g, (List.length l, ()))), ((w, (g, (List.length l, ()))), ())))))) fun (r0 : ((Int × Unit) × ((List Int) × ((Int × (Int × (Nat × Unit))) × Unit)))) => (some (r0.1.1))
theorem t_bonds (w g : Int) (l : LI) : (fnT Γ_bonds 10 150 [HD] [I64] (w, g, l)).den = d_bonds w g l := by kernel_rfl
theorem p_bonds (w g : Int) (l : LI) (r : Int) (h : bondsG (w, g, l) = some r) : d_bonds w g l = some r := by
  obtain ⟨hk, rfl⟩ := if_some (show (if okH (w, g, l) then some (bondsF w g l) else none) = some r from h)
  obtain ⟨z, hl, ha⟩ := hk
  have z : szOk w g := z
  have hl : (l.length : Int) = w * g := hl
  have ha : areB 0 1000 l = true := ha
  have wg := wg_b z
  have zz := z
  obtain ⟨z1, z2, z3, z4⟩ := zz
  unfold d_bonds
  have key := iter_for (B := B_bonds_1) (fun i => ((((), ()), (sumR (bterm w g l) i, (l.length, ((l.length : Int), ((i : Int), ()))))), (l, ((w, (g, (l.length, ()))), ((w, (g, (l.length, ()))), ()))))) 0 l.length ((bondsF w g l, ()), (l, ((w, (g, (l.length, ()))), ()))) (Nat.zero_le _) (by omega) (fun i _ hi => by
    have d0 : 0 ≤ (i : Int) / w := Int.ediv_nonneg (by omega) (by omega)
    have d1 : (i : Int) / w ≤ i := Int.ediv_le_self w (by omega)
    have d2 := Int.emod_nonneg (i : Int) (show w ≠ 0 by omega)
    have d3 := Int.emod_lt_of_pos (i : Int) (show 0 < w by omega)
    have k1 : topG ((w, g, l), (i : Int) % w + 1, (i : Int) / w) = some (ownF w g l ((i : Int) % w + 1) ((i : Int) / w)) := if_pos ⟨z, hl, by show -(2 ^ 10) ≤ (i : Int) % w + 1; omega, by show (i : Int) % w + 1 ≤ 2 ^ 10; omega, by show -(2 ^ 10) ≤ (i : Int) / w; omega, by show (i : Int) / w ≤ 2 ^ 10; omega⟩
    have k2 : topG ((w, g, l), (i : Int) % w, (i : Int) / w + 1) = some (ownF w g l ((i : Int) % w) ((i : Int) / w + 1)) := if_pos ⟨z, hl, by show -(2 ^ 10) ≤ (i : Int) % w; omega, by show (i : Int) % w ≤ 2 ^ 10; omega, by show -(2 ^ 10) ≤ (i : Int) / w + 1; omega, by show (i : Int) / w + 1 ≤ 2 ^ 10; omega⟩
    have e1 : (w != 0) = true := by simp; omega
    have t := bterm_b (w := w) (g := g) ha i
    have sb := sum_b (w := w) (g := g) ha i
    have m1 : ∀ x y, minG (x, y) = some (minF x y) := fun _ _ => rfl
    have tt : minF (l.getD i 0) (ownF w g l ((i : Int) % w + 1) ((i : Int) / w)) + minF (l.getD i 0) (ownF w g l ((i : Int) % w) ((i : Int) / w + 1)) = bterm w g l i := rfl
    unfold B_bonds_1
    simp only [ltT hi, cond_true, inB_of hi, e1, sub_all, Int.toNat_natCast, Nat.zero_add, tmod_nn (i : Int) w (by omega), tdiv_nn (i : Int) w (by omega), wrap64 (n := (i : Int) / w) (by omega) (by omega), wrap64 (n := (i : Int) % w + 1) (by omega) (by omega), wrap64 (n := (i : Int) / w + 1) (by omega) (by omega), k1, k2, Option.bind_some, m1, tt, wrap64 (n := bterm w g l i) (by omega) (by omega), wrap64 (n := sumR (bterm w g l) i + bterm w g l i) (by omega) (by omega), inc64 hi (show l.length < 2 ^ 62 by omega)]
    rfl) (by
    unfold B_bonds_1
    simp only [ltF, cond_false]
    rfl)
  exact (congrArg (fun z => Option.bind z _) (show iter B_bonds_1 bigN _ = _ from key)).trans rfl
theorem s_bonds : FTold Try.prog 150 bondsS := walkedF (fs := fs) (ss := ss_bonds) (loop := loops_bonds) tysOk mixed fnsOk ssOk_bonds 10 150 [HD] [I64] rfl _ fun (w, g, l) r h => (t_bonds w g l).trans (p_bonds w g l r h)
def L_bondsS_1 : LSpec := ⟨[0, 3, 10, 11], ⟨Shs.at 56 [(0, (.ptr 2 0 0)), (3, (.int IntKind.i64)), (10, (.int IntKind.i64)), (11, (.int IntKind.i64))], [(2, (.vals false (.cons (.int IntKind.i64) (.cons (.int IntKind.i64) (.cons (.slc 3) .nil))))), (3, (.arr false (EK.int IntKind.i64)))]⟩, [⟨.ext 0, [3], ⟨Shs.at 56 [(3, (.int IntKind.i64))], [(2, (.vals false (.cons (.int IntKind.i64) (.cons (.int IntKind.i64) (.cons (.slc 3) .nil))))), (3, (.arr false (EK.int IntKind.i64)))]⟩⟩], fun _ => bigN⟩
def loops_bondsS (f k n : Nat) : Option LSpec := bif (Nat.beq f 144 && Nat.beq k 3 && Nat.beq n 1) then some L_bondsS_1 else none
abbrev S_bondsS_1 : Type := ((Int × (Int × (Int × Unit))) × ((Int × (Int × (Nat × Unit))) × ((List Int) × Unit)))
abbrev R_bondsS_1 : Type := ((Int × Unit) × ((Int × (Int × (Nat × Unit))) × ((List Int) × Unit)))
noncomputable def B_bondsS_1 (y : S_bondsS_1) : Option (S_bondsS_1 ⊕ R_bondsS_1) := bif decide (y.1.2.2.1 < y.1.2.1) then (Option.bind (nearG ((y.2.1.1, y.2.1.2.1, sub y.2.2.1 0 y.2.1.2.2.1), y.1.2.2.1)) fun (r1 : (List Int)) => (bif inB y.1.2.2.1 y.2.1.2.2.1 then (bif inB 1 (List.length r1) then (bif inB (List.getD r1 (0 + Int.toNat 1) (0 : Int)) y.2.1.2.2.1 then (Option.bind (minG (List.getD y.2.2.1 (0 + Int.toNat y.1.2.2.1) (0 : Int), List.getD y.2.2.1 (0 + Int.toNat (List.getD r1 (0 + Int.toNat 1) (0 : Int))) (0 : Int))) fun (r2 : Int) => (bif inB y.1.2.2.1 y.2.1.2.2.1 then (bif inB 3 (List.length r1) then (bif inB (List.getD r1 (0 + Int.toNat 3) (0 : Int)) y.2.1.2.2.1 then (Option.bind (minG (List.getD y.2.2.1 (0 + Int.toNat y.1.2.2.1) (0 : Int), List.getD y.2.2.1 (0 + Int.toNat (List.getD r1 (0 + Int.toNat 3) (0 : Int))) (0 : Int))) fun (r3 : Int) => (some (Sum.inl (((IntKind.i64.wrap (y.1.1 + IntKind.i64.wrap (r2 + r3)), (y.1.2.1, (IntKind.i64.wrap (y.1.2.2.1 + 1), ()))), ((y.2.1.1, (y.2.1.2.1, (y.2.1.2.2.1, ()))), (y.2.2.1, ()))))))) else (none)) else (none)) else (none))) else (none)) else (none)) else (none))) else (some (Sum.inr (((y.1.1, ()), ((y.2.1.1, (y.2.1.2.1, (y.2.1.2.2.1, ()))), (y.2.2.1, ()))))))
noncomputable def ss_bondsS : List (Nat × FSpec) := [(143, nearS), (181, minS)]
theorem ssOk_bondsS : FTolds Try.prog ss_bondsS := ⟨s_near, s_min2, trivial⟩
noncomputable def Γ_bondsS : Ctx := ctxOf Try.prog tys fs ss_bondsS loops_bondsS
noncomputable def d_bondsS (w g : Int) (l : LI) : Option (Int) := Option.bind (iter B_bondsS_1 bigN (((0, (((List.length l : Nat) : Int), (0, ()))), ((w, (g, (List.length l, ()))), (l, ()))))) fun (r0 : ((Int × Unit) × ((Int × (Int × (Nat × Unit))) × ((List Int) × Unit)))) => (some (r0.1.1))
theorem t_bondsS (w g : Int) (l : LI) : (fnT Γ_bondsS 10 144 [.ptr HD] [I64] (w, g, l)).den = d_bondsS w g l := by kernel_rfl
theorem p_bondsS (w g : Int) (l : LI) (r : Int) (h : bondsPG (w, g, l) = some r) : d_bondsS w g l = some r := by
  obtain ⟨hk, rfl⟩ := if_some (show (if okH (w, g, l) then some (bondsF w g l) else none) = some r from h)
  obtain ⟨z, hl, ha⟩ := hk
  have z : szOk w g := z
  have hl : (l.length : Int) = w * g := hl
  have ha : areB 0 1000 l = true := ha
  have wg := wg_b z
  unfold d_bondsS
  have key := iter_for (B := B_bondsS_1) (fun i => (((sumR (bterm w g l) i, ((l.length : Int), ((i : Int), ()))), ((w, (g, (l.length, ()))), (l, ()))))) 0 l.length ((bondsF w g l, ()), ((w, (g, (l.length, ()))), (l, ()))) (Nat.zero_le _) (by omega) (fun i _ hi => by
    have k2 : nearG ((w, g, l), (i : Int)) = some (nbr w g ((i : Int) % w) ((i : Int) / w)) := if_pos ⟨z, by show 0 ≤ (i : Int); omega, by show (i : Int) < 2 ^ 10; omega⟩
    have t := bterm_b (w := w) (g := g) ha i
    have sb := sum_b (w := w) (g := g) ha i
    have m1 : ∀ x y, minG (x, y) = some (minF x y) := fun _ _ => rfl
    have q1 := cell_ok z ((i : Int) % w + 1) ((i : Int) / w)
    have q3 := cell_ok z ((i : Int) % w) ((i : Int) / w + 1)
    have g1 : (nbr w g ((i : Int) % w) ((i : Int) / w)).getD (Int.toNat 1) (0 : Int) = cellF w g ((i : Int) % w + 1) ((i : Int) / w) := rfl
    have g3 : (nbr w g ((i : Int) % w) ((i : Int) / w)).getD (Int.toNat 3) (0 : Int) = cellF w g ((i : Int) % w) ((i : Int) / w + 1) := rfl
    have o1 : l.getD (cellF w g ((i : Int) % w + 1) ((i : Int) / w)).toNat 0 = ownF w g l ((i : Int) % w + 1) ((i : Int) / w) := rfl
    have o3 : l.getD (cellF w g ((i : Int) % w) ((i : Int) / w + 1)).toNat 0 = ownF w g l ((i : Int) % w) ((i : Int) / w + 1) := rfl
    have tt : minF (l.getD i 0) (ownF w g l ((i : Int) % w + 1) ((i : Int) / w)) + minF (l.getD i 0) (ownF w g l ((i : Int) % w) ((i : Int) / w + 1)) = bterm w g l i := rfl
    unfold B_bondsS_1
    simp only [ltT hi, cond_true, sub_all, k2, Option.bind_some, show (nbr w g ((i : Int) % w) ((i : Int) / w)).length = 4 from rfl, show inB 1 4 = true from rfl, show inB 3 4 = true from rfl, inB_of hi, Nat.zero_add, g1, g3, inB_int q1.1 (show cellF w g ((i : Int) % w + 1) ((i : Int) / w) < l.length by omega), inB_int q3.1 (show cellF w g ((i : Int) % w) ((i : Int) / w + 1) < l.length by omega), Int.toNat_natCast, o1, o3, m1, tt, wrap64 (n := bterm w g l i) (by omega) (by omega), wrap64 (n := sumR (bterm w g l) i + bterm w g l i) (by omega) (by omega), inc64 hi (show l.length < 2 ^ 62 by omega)]
    rfl) (by
    unfold B_bondsS_1
    simp only [ltF, cond_false]
    rfl)
  exact (congrArg (fun z => Option.bind z _) (show iter B_bondsS_1 bigN _ = _ from key)).trans rfl
theorem s_bondsS : FTold Try.prog 144 bondsPS := walkedF (fs := fs) (ss := ss_bondsS) (loop := loops_bondsS) tysOk mixed fnsOk ssOk_bondsS 10 144 [.ptr HD] [I64] rfl _ fun (w, g, l) r h => (t_bondsS w g l).trans (p_bondsS w g l r h)
def nextF (s : Int) : Int := (1103515245 * s + 12345) % 2147483648
def sdOk (s : Int) : Prop := 0 ≤ s ∧ s ≤ 2147483647
instance (s : Int) : Decidable (sdOk s) := by unfold sdOk; exact inferInstance
theorem next_ok (s : Int) : sdOk (nextF s) := by unfold sdOk nextF; omega
theorem next_tree {s : Int} (h : sdOk s) : (IntKind.i64.wrap (IntKind.i64.wrap (1103515245 * s) + 12345)).tmod 2147483648 = nextF s ∧ IntKind.i64.wrap ((nextF s).tdiv 65536) = nextF s / 65536 ∧ 0 ≤ nextF s / 65536 := by
  obtain ⟨h1, h2⟩ := h
  have n := next_ok s
  unfold sdOk at n
  refine ⟨?_, ?_, by omega⟩
  · rw [wrap64 (n := 1103515245 * s) (by omega) (by omega), wrap64 (by omega) (by omega), Int.tmod_eq_emod_of_nonneg (by omega)]
    rfl
  · rw [Int.tdiv_eq_ediv_of_nonneg n.1, wrap64 (by omega) (by omega)]
def draw1G (x : Int) : Option (Int × Int) := if sdOk x then some (nextF x, nextF x / 65536) else none
def draw1S : FSpec := ⟨[I64], [I64, I64], draw1G⟩
def loops_draw (_ _ _ : Nat) : Option LSpec := none
noncomputable def ss_draw : List (Nat × FSpec) := []
theorem ssOk_draw : FTolds Try.prog ss_draw := trivial
noncomputable def Γ_draw : Ctx := ctxOf Try.prog tys fs ss_draw loops_draw
noncomputable def d_draw (x : Int) : Option ((Int × Int)) := some (((IntKind.i64.wrap (IntKind.i64.wrap (1103515245 * x) + 12345)).tmod 2147483648, IntKind.i64.wrap (((IntKind.i64.wrap (IntKind.i64.wrap (1103515245 * x) + 12345)).tmod 2147483648).tdiv 65536)))
theorem t_draw (x : Int) : (fnT Γ_draw 10 148 [I64] [I64, I64] x).den = d_draw x := by kernel_rfl
theorem p_draw (x : Int) (r : (Int × Int)) (h : draw1G x = some r) : d_draw x = some r := by
  obtain ⟨hs, rfl⟩ := if_some (show (if sdOk x then some (nextF x, nextF x / 65536) else none) = some r from h)
  obtain ⟨t1, t2, t3⟩ := next_tree hs
  unfold d_draw
  rw [t1, t2]
theorem s_draw : FTold Try.prog 148 draw1S := walkedF (fs := fs) (ss := ss_draw) (loop := loops_draw) tysOk mixed fnsOk ssOk_draw 10 148 [I64] [I64, I64] rfl _ fun x r h => (t_draw x).trans (p_draw x r h)
def draw2G (x : Int × Int) : Option (Int × Int) := if sdOk x.1 ∧ 1 ≤ x.2 then some (nextF x.1 / 65536 % x.2, nextF x.1) else none
def draw2S : FSpec := ⟨[I64, I64], [I64, I64], draw2G⟩
def loops_l05Draw (_ _ _ : Nat) : Option LSpec := none
noncomputable def ss_l05Draw : List (Nat × FSpec) := []
theorem ssOk_l05Draw : FTolds Try.prog ss_l05Draw := trivial
noncomputable def Γ_l05Draw : Ctx := ctxOf Try.prog tys fs ss_l05Draw loops_l05Draw
noncomputable def d_l05Draw (x n : Int) : Option ((Int × Int)) := bif n != 0 then (some (((IntKind.i64.wrap (((IntKind.i64.wrap (IntKind.i64.wrap (1103515245 * x) + 12345)).tmod 2147483648).tdiv 65536)).tmod n, (IntKind.i64.wrap (IntKind.i64.wrap (1103515245 * x) + 12345)).tmod 2147483648))) else (none)
theorem t_l05Draw (x n : Int) : (fnT Γ_l05Draw 10 80 [I64, I64] [I64, I64] (x, n)).den = d_l05Draw x n := by kernel_rfl
theorem p_l05Draw (x n : Int) (r : (Int × Int)) (h : draw2G (x, n) = some r) : d_l05Draw x n = some r := by
  obtain ⟨⟨hs, h1⟩, rfl⟩ := if_some (show (if sdOk x ∧ 1 ≤ n then some (nextF x / 65536 % n, nextF x) else none) = some r from h)
  obtain ⟨t1, t2, t3⟩ := next_tree hs
  have z : (n != 0) = true := by simp; omega
  unfold d_l05Draw
  rw [t1, t2, z, cond_true, Int.tmod_eq_emod_of_nonneg t3]
theorem s_l05Draw : FTold Try.prog 80 draw2S := walkedF (fs := fs) (ss := ss_l05Draw) (loop := loops_l05Draw) tysOk mixed fnsOk ssOk_l05Draw 10 80 [I64, I64] [I64, I64] rfl _ fun (x, n) r h => (t_l05Draw x n).trans (p_l05Draw x n r h)
def madeF (x n : Int) (l : LI) : Bool := bif decide (x ≤ 0) then true else bif decide (x ≤ (l.length : Int)) then decide (n < l.getD (x - 1).toNat 0) else false
def madeG (x : Int × Int × LI) : Option Bool := if x.1 ≤ 2 ^ 40 ∧ x.2.2.length ≤ 8 then some (madeF x.1 x.2.1 x.2.2) else none
def madeS : FSpec := ⟨[I64, I64, L64], [.bool], madeG⟩
def loops_made (_ _ _ : Nat) : Option LSpec := none
noncomputable def ss_made : List (Nat × FSpec) := []
theorem ssOk_made : FTolds Try.prog ss_made := trivial
noncomputable def Γ_made : Ctx := ctxOf Try.prog tys fs ss_made loops_made
noncomputable def d_made (x n : Int) (l : LI) : Option (Bool) := bif decide (x ≤ 0) then (some (true)) else (bif decide (x ≤ ((List.length l : Nat) : Int)) then (bif inB (IntKind.i64.wrap (x - 1)) (List.length l) then (some (decide (n < List.getD l (0 + (IntKind.i64.wrap (x - 1)).toNat) (0 : Int)))) else (none)) else (some (false)))
theorem t_made (x n : Int) (l : LI) : (fnT Γ_made 10 82 [I64, I64, L64] [.bool] (x, n, l)).den = d_made x n l := by kernel_rfl
theorem p_made (x n : Int) (l : LI) (r : Bool) (h : madeG (x, n, l) = some r) : d_made x n l = some r := by
  obtain ⟨⟨h1, h2⟩, rfl⟩ := if_some (show (if x ≤ 2 ^ 40 ∧ l.length ≤ 8 then some (madeF x n l) else none) = some r from h)
  unfold d_made madeF
  by_cases c1 : x ≤ 0
  · rw [decide_eq_true c1]; rfl
  · rw [decide_eq_false c1, cond_false, cond_false]
    by_cases c2 : x ≤ (l.length : Int)
    · rw [decide_eq_true c2, cond_true, cond_true, wrap64 (n := x - 1) (by omega) (by omega), inB_int (show 0 ≤ x - 1 by omega) (show x - 1 < l.length by omega), cond_true, Nat.zero_add]
    · rw [decide_eq_false c2]; rfl
theorem s_made : FTold Try.prog 82 madeS := walkedF (fs := fs) (ss := ss_made) (loop := loops_made) tysOk mixed fnsOk ssOk_made 10 82 [I64, I64, L64] [.bool] rfl _ fun (x, n, l) r h => (t_made x n l).trans (p_made x n l r h)
end Go.Proofs.Ytjggcekliaalgaa
