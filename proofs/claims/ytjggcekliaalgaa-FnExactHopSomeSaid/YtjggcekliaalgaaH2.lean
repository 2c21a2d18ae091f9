/- Heights: cells and their neighbours. No condition. -/
import Derived.Test.YtjggcekliaalgaaH1
namespace Go.Proofs.Ytjggcekliaalgaa
open Go.Ab
abbrev HD : DS := .agg [I64, I64, L64]
abbrev HT : Type := Int × Int × LI
theorem tmod_fix (x n : Int) (h : 0 < n) : (x.tmod n + n).tmod n = x % n ∧ -n < x.tmod n ∧ x.tmod n < n := by
  have h1 := Int.tmod_lt_of_pos x h
  have h2 : -n < x.tmod n := Int.lt_tmod_of_pos x h
  refine ⟨?_, h2, h1⟩
  rw [Int.tmod_eq_emod_of_nonneg (by omega), Int.add_emod_right]
  have := Int.tmod_add_mul_tdiv x n
  conv => rhs; rw [← this, Int.add_mul_emod_self_left]
theorem tmod_nn (x n : Int) (h : 0 ≤ x) : x.tmod n = x % n := Int.tmod_eq_emod_of_nonneg h
theorem tdiv_nn (x n : Int) (h : 0 ≤ x) : x.tdiv n = x / n := Int.tdiv_eq_ediv_of_nonneg h
theorem cell_lt (w h x y : Int) (hw : 2 ≤ w) (hw' : w ≤ 16) (hh : 2 ≤ h) (hh' : h ≤ 16) : 0 ≤ x % w + w * (y % h) ∧ x % w + w * (y % h) < w * h ∧ 0 ≤ w * (y % h) ∧ w * (y % h) ≤ 256 ∧ 0 ≤ x % w ∧ x % w < 16 := by
  have a := Int.emod_nonneg x (show w ≠ 0 by omega)
  have b := Int.emod_lt_of_pos x (show 0 < w by omega)
  have c := Int.emod_nonneg y (show h ≠ 0 by omega)
  have d := Int.emod_lt_of_pos y (show 0 < h by omega)
  generalize x % w = p at *
  generalize y % h = q at *
  have e : 0 ≤ w * q := Int.mul_nonneg (by omega) c
  have f : w * q ≤ w * (h - 1) := Int.mul_le_mul_of_nonneg_left (by omega) (by omega)
  have g : w * q ≤ 16 * q := Int.mul_le_mul_of_nonneg_right (by omega) c
  rw [Int.mul_sub, Int.mul_one] at f
  omega
def placeG (x : Int × Int × Bool) : Option Int := if x.2.2 = true ∧ 1 ≤ x.2.1 ∧ x.2.1 ≤ 2 ^ 20 ∧ -(2 ^ 40) ≤ x.1 ∧ x.1 ≤ 2 ^ 40 then some (x.1 % x.2.1) else none
def placeS : FSpec := ⟨[I64, I64, .bool], [I64], placeG⟩
def cellF (w h x y : Int) : Int := x % w + w * (y % h)
def szOk (w h : Int) : Prop := 2 ≤ w ∧ w ≤ 16 ∧ 2 ≤ h ∧ h ≤ 16
instance (w h : Int) : Decidable (szOk w h) := by unfold szOk; exact inferInstance
def cellG (x : HT × Int × Int) : Option Int := if szOk x.1.1 x.1.2.1 ∧ -(2 ^ 20) ≤ x.2.1 ∧ x.2.1 ≤ 2 ^ 20 ∧ -(2 ^ 20) ≤ x.2.2 ∧ x.2.2 ≤ 2 ^ 20 then some (cellF x.1.1 x.1.2.1 x.2.1 x.2.2) else none
def cellS : FSpec := ⟨[HD, I64, I64], [I64], cellG⟩
def indexG (x : HT × Int × Int) : Option Int := cellG x
def indexS : FSpec := ⟨[.ptr HD, I64, I64], [I64], indexG⟩
def nbr (w h x y : Int) : LI := [cellF w h (x - 1) y, cellF w h (x + 1) y, cellF w h x (y - 1), cellF w h x (y + 1)]
def besideG (x : HT × Int × Int) : Option LI := if szOk x.1.1 x.1.2.1 ∧ -(2 ^ 10) ≤ x.2.1 ∧ x.2.1 ≤ 2 ^ 10 ∧ -(2 ^ 10) ≤ x.2.2 ∧ x.2.2 ≤ 2 ^ 10 then some (nbr x.1.1 x.1.2.1 x.2.1 x.2.2) else none
def besideS : FSpec := ⟨[HD, I64, I64], [L64], besideG⟩
def nearG (x : HT × Int) : Option LI := if szOk x.1.1 x.1.2.1 ∧ 0 ≤ x.2 ∧ x.2 < 2 ^ 10 then some (nbr x.1.1 x.1.2.1 (x.2 % x.1.1) (x.2 / x.1.1)) else none
def nearS : FSpec := ⟨[.ptr HD, I64], [L64], nearG⟩
def loops_place (_ _ _ : Nat) : Option LSpec := none
noncomputable def ss_place : List (Nat × FSpec) := []
theorem ssOk_place : FTolds Try.prog ss_place := trivial
noncomputable def Γ_place : Ctx := ctxOf Try.prog tys fs ss_place loops_place
noncomputable def d_place (x n : Int) (b : Bool) : Option (Int) := bif b then (bif n != 0 then (bif n != 0 then (some ((IntKind.i64.wrap (x.tmod n + n)).tmod n)) else (none)) else (none)) else (some (maxN false (maxN true x 0) (IntKind.i64.wrap (n - 1))))
theorem t_place (x n : Int) (b : Bool) : (fnT Γ_place 10 178 [I64, I64, .bool] [I64] (x, n, b)).den = d_place x n b := by kernel_rfl
theorem p_place (x n : Int) (b : Bool) (r : Int) (h : placeG (x, n, b) = some r) : d_place x n b = some r := by
  obtain ⟨⟨h1, h2, h3, h4, h5⟩, rfl⟩ := if_some (show (if b = true ∧ 1 ≤ n ∧ n ≤ 2 ^ 20 ∧ -(2 ^ 40) ≤ x ∧ x ≤ 2 ^ 40 then some (x % n) else none) = some r from h)
  subst h1
  obtain ⟨t1, t2, t3⟩ := tmod_fix x n (by omega)
  have z : (n != 0) = true := by simp; omega
  unfold d_place
  simp only [cond_true, z]
  rw [wrap64 (by omega) (by omega), t1]
theorem s_place : FTold Try.prog 178 placeS := walkedF (fs := fs) (ss := ss_place) (loop := loops_place) tysOk mixed fnsOk ssOk_place 10 178 [I64, I64, .bool] [I64] rfl _ fun (x, n, b) r h => (t_place x n b).trans (p_place x n b r h)
def loops_cell (_ _ _ : Nat) : Option LSpec := none
noncomputable def ss_cell : List (Nat × FSpec) := [(178, placeS)]
theorem ssOk_cell : FTolds Try.prog ss_cell := ⟨s_place, trivial⟩
noncomputable def Γ_cell : Ctx := ctxOf Try.prog tys fs ss_cell loops_cell
noncomputable def d_cell (w g : Int) (l : LI) (x y : Int) : Option (Int) := Option.bind (placeG (x, w, true)) fun (r0 : Int) => (Option.bind (placeG (y, g, true)) fun (r1 : Int) => (some (IntKind.i64.wrap (r0 + IntKind.i64.wrap (w * r1)))))
theorem t_cell (w g : Int) (l : LI) (x y : Int) : (fnT Γ_cell 10 139 [HD, I64, I64] [I64] ((w, g, l), x, y)).den = d_cell w g l x y := by kernel_rfl
theorem p_cell (w g : Int) (l : LI) (x y : Int) (r : Int) (h : cellG ((w, g, l), x, y) = some r) : d_cell w g l x y = some r := by
  obtain ⟨⟨⟨z1, z2, z3, z4⟩, h1, h2, h3, h4⟩, rfl⟩ := if_some (show (if szOk w g ∧ -(2 ^ 20) ≤ x ∧ x ≤ 2 ^ 20 ∧ -(2 ^ 20) ≤ y ∧ y ≤ 2 ^ 20 then some (cellF w g x y) else none) = some r from h)
  have k1 : placeG (x, w, true) = some (x % w) := if_pos ⟨rfl, by show 1 ≤ w; omega, by show w ≤ 2 ^ 20; omega, by show -(2 ^ 40) ≤ x; omega, by show x ≤ 2 ^ 40; omega⟩
  have k2 : placeG (y, g, true) = some (y % g) := if_pos ⟨rfl, by show 1 ≤ g; omega, by show g ≤ 2 ^ 20; omega, by show -(2 ^ 40) ≤ y; omega, by show y ≤ 2 ^ 40; omega⟩
  have c := cell_lt w g x y z1 z2 z3 z4
  unfold d_cell cellF
  simp only [k1, k2, Option.bind_some]
  rw [wrap64 (n := w * (y % g)) (by omega) (by omega), wrap64 (by omega) (by omega)]
theorem s_cell : FTold Try.prog 139 cellS := walkedF (fs := fs) (ss := ss_cell) (loop := loops_cell) tysOk mixed fnsOk ssOk_cell 10 139 [HD, I64, I64] [I64] rfl _ fun ((w, g, l), x, y) r h => (t_cell w g l x y).trans (p_cell w g l x y r h)
def loops_index (_ _ _ : Nat) : Option LSpec := none
noncomputable def ss_index : List (Nat × FSpec) := []
theorem ssOk_index : FTolds Try.prog ss_index := trivial
noncomputable def Γ_index : Ctx := ctxOf Try.prog tys fs ss_index loops_index
noncomputable def d_index (w g : Int) (l : LI) (x y : Int) : Option (Int) := bif w != 0 then (bif w != 0 then (bif g != 0 then (bif g != 0 then (some (IntKind.i64.wrap ((IntKind.i64.wrap (x.tmod w + w)).tmod w + IntKind.i64.wrap (w * (IntKind.i64.wrap (y.tmod g + g)).tmod g)))) else (none)) else (none)) else (none)) else (none)
theorem t_index (w g : Int) (l : LI) (x y : Int) : (fnT Γ_index 10 180 [.ptr HD, I64, I64] [I64] ((w, g, l), x, y)).den = d_index w g l x y := by kernel_rfl
theorem p_index (w g : Int) (l : LI) (x y : Int) (r : Int) (h : indexG ((w, g, l), x, y) = some r) : d_index w g l x y = some r := by
  obtain ⟨⟨⟨z1, z2, z3, z4⟩, h1, h2, h3, h4⟩, rfl⟩ := if_some (show (if szOk w g ∧ -(2 ^ 20) ≤ x ∧ x ≤ 2 ^ 20 ∧ -(2 ^ 20) ≤ y ∧ y ≤ 2 ^ 20 then some (cellF w g x y) else none) = some r from h)
  have c := cell_lt w g x y z1 z2 z3 z4
  obtain ⟨t1, t2, t3⟩ := tmod_fix x w (by omega)
  obtain ⟨u1, u2, u3⟩ := tmod_fix y g (by omega)
  have e1 : (w != 0) = true := by simp; omega
  have e2 : (g != 0) = true := by simp; omega
  unfold d_index cellF
  simp only [e1, e2, cond_true]
  rw [wrap64 (n := x.tmod w + w) (by omega) (by omega), t1, wrap64 (n := y.tmod g + g) (by omega) (by omega), u1, wrap64 (n := w * (y % g)) (by omega) (by omega), wrap64 (by omega) (by omega)]
theorem s_index : FTold Try.prog 180 indexS := walkedF (fs := fs) (ss := ss_index) (loop := loops_index) tysOk mixed fnsOk ssOk_index 10 180 [.ptr HD, I64, I64] [I64] rfl _ fun ((w, g, l), x, y) r h => (t_index w g l x y).trans (p_index w g l x y r h)
def loops_near (_ _ _ : Nat) : Option LSpec := none
noncomputable def ss_near : List (Nat × FSpec) := [(180, indexS)]
theorem ssOk_near : FTolds Try.prog ss_near := ⟨s_index, trivial⟩
noncomputable def Γ_near : Ctx := ctxOf Try.prog tys fs ss_near loops_near
noncomputable def d_near (w g : Int) (l : LI) (i : Int) : Option ((List Int)) := bif w != 0 then (bif w != 0 then (Option.bind (indexG ((w, g, sub l 0 (List.length l)), IntKind.i64.wrap (i.tmod w - 1), IntKind.i64.wrap (i.tdiv w))) fun (r0 : Int) => (Option.bind (indexG ((w, g, sub l 0 (List.length l)), IntKind.i64.wrap (i.tmod w + 1), IntKind.i64.wrap (i.tdiv w))) fun (r1 : Int) => (Option.bind (indexG ((w, g, sub l 0 (List.length l)), i.tmod w, IntKind.i64.wrap (IntKind.i64.wrap (i.tdiv w) - 1))) fun (r2 : Int) => (Option.bind (indexG ((w, g, sub l 0 (List.length l)), i.tmod w, IntKind.i64.wrap (IntKind.i64.wrap (i.tdiv w) + 1))) fun (r3 : Int) => (some (r0 :: r1 :: r2 :: r3 :: [])))))) else (none)) else (none)
theorem t_near (w g : Int) (l : LI) (i : Int) : (fnT Γ_near 10 143 [.ptr HD, I64] [L64] ((w, g, l), i)).den = d_near w g l i := by kernel_rfl
theorem p_near (w g : Int) (l : LI) (i : Int) (r : (List Int)) (h : nearG ((w, g, l), i) = some r) : d_near w g l i = some r := by
  obtain ⟨⟨⟨z1, z2, z3, z4⟩, h1, h2⟩, rfl⟩ := if_some (show (if szOk w g ∧ 0 ≤ i ∧ i < 2 ^ 10 then some (nbr w g (i % w) (i / w)) else none) = some r from h)
  have e1 : (w != 0) = true := by simp; omega
  have a1 := Int.emod_nonneg i (show w ≠ 0 by omega)
  have a2 := Int.emod_lt_of_pos i (show 0 < w by omega)
  have b1 : 0 ≤ i / w := Int.ediv_nonneg h1 (by omega)
  have b2 : i / w ≤ i := Int.ediv_le_self w h1
  have k : ∀ x y, -(2 ^ 20) ≤ x → x ≤ 2 ^ 20 → -(2 ^ 20) ≤ y → y ≤ 2 ^ 20 → indexG ((w, g, l), x, y) = some (cellF w g x y) := fun x y p q s t => if_pos ⟨⟨z1, z2, z3, z4⟩, p, q, s, t⟩
  unfold d_near nbr
  simp only [e1, cond_true, sub_all]
  rw [tmod_nn i w h1, tdiv_nn i w h1]
  generalize i % w = p at *
  generalize i / w = q at *
  rw [wrap64 (n := p - 1) (by omega) (by omega), wrap64 (n := p + 1) (by omega) (by omega), wrap64 (n := q) (by omega) (by omega), wrap64 (n := q - 1) (by omega) (by omega), wrap64 (n := q + 1) (by omega) (by omega), k _ _ (by omega) (by omega) (by omega) (by omega), k _ _ (by omega) (by omega) (by omega) (by omega), k _ _ (by omega) (by omega) (by omega) (by omega), k _ _ (by omega) (by omega) (by omega) (by omega)]
  rfl
theorem s_near : FTold Try.prog 143 nearS := walkedF (fs := fs) (ss := ss_near) (loop := loops_near) tysOk mixed fnsOk ssOk_near 10 143 [.ptr HD, I64] [L64] rfl _ fun ((w, g, l), i) r h => (t_near w g l i).trans (p_near w g l i r h)
def L_beside_1 : LSpec := ⟨[1, 2, 3, 7, 11, 12], ⟨Shs.at 30 [(1, (.int IntKind.i64)), (2, (.int IntKind.i64)), (3, (.ptr 2146435264 0 0)), (7, (.slc 2146435265)), (11, (.arv ((EK.int IntKind.i64).pair (EK.int IntKind.i64)))), (12, (.int IntKind.i64))], [(2, (.arr false (EK.int IntKind.i64))), (2146435264, (.vals true (.cons (.int IntKind.i64) (.cons (.int IntKind.i64) (.cons (.slc 2) .nil))))), (2146435265, (.arr true (EK.int IntKind.i64)))]⟩, [⟨.ext 0, [7], ⟨Shs.at 30 [(7, (.slc 2146435264))], [(2, (.arr false (EK.int IntKind.i64))), (2146435264, (.arr true (EK.int IntKind.i64)))]⟩⟩], fun _ => bigN⟩
def loops_beside (f k n : Nat) : Option LSpec := bif (Nat.beq f 140 && Nat.beq k 3 && Nat.beq n 1) then some L_beside_1 else none
abbrev S_beside_1 : Type := ((Int × (Int × (Nat × ((List (Int × Int)) × (Int × Unit))))) × ((List Int) × ((Int × (Int × (Nat × Unit))) × ((List Int) × Unit))))
abbrev R_beside_1 : Type := ((Nat × Unit) × ((List Int) × ((List Int) × Unit)))
noncomputable def B_beside_1 (y : S_beside_1) : Option (S_beside_1 ⊕ R_beside_1) := bif decide (y.1.2.2.2.2.1 < 4) then (bif inB y.1.2.2.2.2.1 (List.length y.1.2.2.2.1) && decide (List.length y.1.2.2.2.1 = 4) then (bif inB 0 [(List.getD y.1.2.2.2.1 (Int.toNat y.1.2.2.2.2.1) ((EK.int IntKind.i64).pair (EK.int IntKind.i64)).dflt).1, (List.getD y.1.2.2.2.1 (Int.toNat y.1.2.2.2.2.1) ((EK.int IntKind.i64).pair (EK.int IntKind.i64)).dflt).2].length && decide ([(List.getD y.1.2.2.2.1 (Int.toNat y.1.2.2.2.2.1) ((EK.int IntKind.i64).pair (EK.int IntKind.i64)).dflt).1, (List.getD y.1.2.2.2.1 (Int.toNat y.1.2.2.2.2.1) ((EK.int IntKind.i64).pair (EK.int IntKind.i64)).dflt).2].length = 2) then (bif inB 1 [(List.getD y.1.2.2.2.1 (Int.toNat y.1.2.2.2.2.1) ((EK.int IntKind.i64).pair (EK.int IntKind.i64)).dflt).1, (List.getD y.1.2.2.2.1 (Int.toNat y.1.2.2.2.2.1) ((EK.int IntKind.i64).pair (EK.int IntKind.i64)).dflt).2].length && decide ([(List.getD y.1.2.2.2.1 (Int.toNat y.1.2.2.2.2.1) ((EK.int IntKind.i64).pair (EK.int IntKind.i64)).dflt).1, (List.getD y.1.2.2.2.1 (Int.toNat y.1.2.2.2.2.1) ((EK.int IntKind.i64).pair (EK.int IntKind.i64)).dflt).2].length = 2) then (Option.bind (cellG ((y.2.2.1.1, y.2.2.1.2.1, sub y.2.1 0 y.2.2.1.2.2.1), IntKind.i64.wrap (y.1.1 + [(List.getD y.1.2.2.2.1 (Int.toNat y.1.2.2.2.2.1) ((EK.int IntKind.i64).pair (EK.int IntKind.i64)).dflt).1, (List.getD y.1.2.2.2.1 (Int.toNat y.1.2.2.2.2.1) ((EK.int IntKind.i64).pair (EK.int IntKind.i64)).dflt).2].getD (Int.toNat 0) (0 : Int)), IntKind.i64.wrap (y.1.2.1 + [(List.getD y.1.2.2.2.1 (Int.toNat y.1.2.2.2.2.1) ((EK.int IntKind.i64).pair (EK.int IntKind.i64)).dflt).1, (List.getD y.1.2.2.2.1 (Int.toNat y.1.2.2.2.2.1) ((EK.int IntKind.i64).pair (EK.int IntKind.i64)).dflt).2].getD (Int.toNat 1) (0 : Int)))) fun (r1 : Int) => (bif decide (y.1.2.2.1 + 1 ≤ maxA) then (some (Sum.inl (((y.1.1, (y.1.2.1, ((sub y.2.2.2.1 0 y.1.2.2.1 ++ [r1]).length, (y.1.2.2.2.1, (IntKind.i64.wrap (y.1.2.2.2.2.1 + 1), ()))))), (y.2.1, ((y.2.2.1.1, (y.2.2.1.2.1, (y.2.2.1.2.2.1, ()))), (sub y.2.2.2.1 0 y.1.2.2.1 ++ [r1], ()))))))) else (none))) else (none)) else (none)) else (none)) else (some (Sum.inr (((y.1.2.2.1, ()), (y.2.1, (y.2.2.2.1, ()))))))
noncomputable def ss_beside : List (Nat × FSpec) := [(139, cellS)]
theorem ssOk_beside : FTolds Try.prog ss_beside := ⟨s_cell, trivial⟩
noncomputable def Γ_beside : Ctx := ctxOf Try.prog tys fs ss_beside loops_beside
noncomputable def d_beside (w g : Int) (l : LI) (x y : Int) : Option ((List Int)) := bif true && true then (Option.bind (iter B_beside_1 bigN (((x, (y, (0, ((-1, 0) :: (1, 0) :: (0, -1) :: (0, 1) :: [], (0, ()))))), (l, ((w, (g, (List.length l, ()))), ([], ())))))) fun (r0 : ((Nat × Unit) × ((List Int) × ((List Int) × Unit)))) => (some (sub r0.2.2.1 0 r0.1.1))) else (none)
theorem t_beside (w g : Int) (l : LI) (x y : Int) : (fnT Γ_beside 10 140 [HD, I64, I64] [L64] ((w, g, l), x, y)).den = d_beside w g l x y := by kernel_rfl
theorem p_beside (w g : Int) (l : LI) (x y : Int) (r : (List Int)) (h : besideG ((w, g, l), x, y) = some r) : d_beside w g l x y = some r := by
  obtain ⟨⟨⟨z1, z2, z3, z4⟩, h1, h2, h3, h4⟩, rfl⟩ := if_some (show (if szOk w g ∧ -(2 ^ 10) ≤ x ∧ x ≤ 2 ^ 10 ∧ -(2 ^ 10) ≤ y ∧ y ≤ 2 ^ 10 then some (nbr w g x y) else none) = some r from h)
  have k : ∀ p q, -(2 ^ 20) ≤ p → p ≤ 2 ^ 20 → -(2 ^ 20) ≤ q → q ≤ 2 ^ 20 → cellG ((w, g, l), p, q) = some (cellF w g p q) := fun p q a b c d => if_pos ⟨⟨z1, z2, z3, z4⟩, a, b, c, d⟩
  have w0 : ∀ t : Int, -(2 ^ 20) ≤ t → t ≤ 2 ^ 20 → IntKind.i64.wrap t = t := fun t a b => wrap64 (by omega) (by omega)
  unfold d_beside
  simp only [Bool.and_self, cond_true]
  have one : ∀ (i : Nat) (u v : Int), i < 4 → ([((-1 : Int), (0 : Int)), (1, 0), (0, -1), (0, 1)] : List (Int × Int)).getD i (0, 0) = (u, v) → -1 ≤ u → u ≤ 1 → -1 ≤ v → v ≤ 1 → B_beside_1 ((x, (y, (i, ([((-1 : Int), (0 : Int)), (1, 0), (0, -1), (0, 1)], ((i : Int), ()))))), (l, ((w, (g, (List.length l, ()))), ((nbr w g x y).take i, ())))) = some (.inl ((x, (y, (((nbr w g x y).take i ++ [cellF w g (x + u) (y + v)]).length, ([((-1 : Int), (0 : Int)), (1, 0), (0, -1), (0, 1)], (((i + 1 : Nat) : Int), ()))))), (l, ((w, (g, (List.length l, ()))), ((nbr w g x y).take i ++ [cellF w g (x + u) (y + v)], ()))))) := by
    intro i u v hi he a b c d
    have hl : ((nbr w g x y).take i).length = i := by rw [List.length_take]; show min i 4 = i; omega
    have hs : sub ((nbr w g x y).take i) 0 i = (nbr w g x y).take i := by have := sub_all ((nbr w g x y).take i); rw [hl] at this; exact this
    have hd : ((EK.int IntKind.i64).pair (EK.int IntKind.i64)).dflt = ((0 : Int), (0 : Int)) := rfl
    have e1 : decide ((i : Int) < 4) = true := decide_eq_true (by omega)
    unfold B_beside_1
    simp only [e1, cond_true, Int.toNat_natCast, hd, he, show ([((-1 : Int), (0 : Int)), (1, 0), (0, -1), (0, 1)] : List (Int × Int)).length = 4 from rfl, inB_of hi, decide_true, Bool.and_self, sub_all, show inB 0 2 = true from rfl, show inB 1 2 = true from rfl, show [u, v].length = 2 from rfl, show [u, v].getD (Int.toNat 0) (0 : Int) = u from rfl, show [u, v].getD (Int.toNat 1) (0 : Int) = v from rfl, w0 (x + u) (by omega) (by omega), w0 (y + v) (by omega) (by omega), k (x + u) (y + v) (by omega) (by omega) (by omega) (by omega), Option.bind_some, maxA_one (show i < 2 ^ 30 by omega), hs, inc64 (show i < 4 from hi) (show (4 : Nat) < 2 ^ 62 by decide)]
  have key := iter_for (B := B_beside_1) (fun i => ((x, (y, (i, ([((-1 : Int), (0 : Int)), (1, 0), (0, -1), (0, 1)], ((i : Int), ()))))), (l, ((w, (g, (List.length l, ()))), ((nbr w g x y).take i, ()))))) 0 4 ((4, ()), (l, (nbr w g x y, ()))) (Nat.zero_le _) (by decide) (fun i _ hi => by
    have hc : i = 0 ∨ i = 1 ∨ i = 2 ∨ i = 3 := by omega
    rcases hc with rfl | rfl | rfl | rfl
    · exact one 0 (-1) 0 hi rfl (by decide) (by decide) (by decide) (by decide) |>.trans (by simp [nbr, Int.sub_eq_add_neg])
    · exact one 1 1 0 hi rfl (by decide) (by decide) (by decide) (by decide) |>.trans (by simp [nbr, Int.sub_eq_add_neg])
    · exact one 2 0 (-1) hi rfl (by decide) (by decide) (by decide) (by decide) |>.trans (by simp [nbr, Int.sub_eq_add_neg])
    · exact one 3 0 1 hi rfl (by decide) (by decide) (by decide) (by decide) |>.trans (by simp [nbr, Int.sub_eq_add_neg])) rfl
  refine (congrArg (fun z => Option.bind z _) (show iter B_beside_1 bigN _ = _ from key)).trans ?_
  rfl
theorem s_beside : FTold Try.prog 140 besideS := walkedF (fs := fs) (ss := ss_beside) (loop := loops_beside) tysOk mixed fnsOk ssOk_beside 10 140 [HD, I64, I64] [L64] rfl _ fun ((w, g, l), x, y) r h => (t_beside w g l x y).trans (p_beside w g l x y r h)
end Go.Proofs.Ytjggcekliaalgaa
