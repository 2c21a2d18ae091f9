/- Hops: one, and some. No condition. -/
import Derived.Test.YtjggcekliaalgaaH6
namespace Go.Proofs.Ytjggcekliaalgaa
open Go.Ab
def hopL (w g : Int) (l : LI) (i k : Int) : LI := (l.set i.toNat (l.getD i.toNat 0 - 1)).set ((nbr w g (i % w) (i / w)).getD k.toNat 0).toNat ((l.set i.toNat (l.getD i.toNat 0 - 1)).getD ((nbr w g (i % w) (i / w)).getD k.toNat 0).toNat 0 + 1)
def hopF (w g : Int) (l : LI) (i k : Int) : HT × Int × Bool :=
  bif decide (l.getD i.toNat 0 = 0) then ((0, 0, []), 0, false)
  else bif decide (okH (w, g, hopL w g l i k)) then ((w, g, hopL w g l i k), bondsF w g l - bondsF w g (hopL w g l i k), true) else ((0, 0, []), 0, false)
theorem hopL_len (w g : Int) (l : LI) (i k : Int) : (hopL w g l i k).length = l.length := by unfold hopL; simp
def hopG (x : HT × Int × Int) : Option (HT × Int × Bool) := if okH x.1 ∧ 0 ≤ x.2.1 ∧ x.2.1 < x.1.2.2.length ∧ 0 ≤ x.2.2 ∧ x.2.2 < 4 then some (hopF x.1.1 x.1.2.1 x.1.2.2 x.2.1 x.2.2) else none
def hopS : FSpec := ⟨[.ptr HD, I64, I64], [HD, I64, .bool], hopG⟩
theorem set_bnd {l : LI} {p q : Int} (h : ∀ i, p ≤ l.getD i 0 ∧ l.getD i 0 ≤ q) {v : Int} (h1 : p - 1 ≤ v) (h2 : v ≤ q + 1) (j i : Nat) : p - 1 ≤ (l.set j v).getD i 0 ∧ (l.set j v).getD i 0 ≤ q + 1 := by
  rw [List.getD_eq_getElem?_getD, List.getElem?_set]
  by_cases e : j = i
  · subst e
    rw [if_pos rfl]
    split
    · exact ⟨h1, h2⟩
    · have := h j
      rename_i hlt
      rw [List.getD_eq_getElem?_getD, List.getElem?_eq_none (by omega)] at this
      show p - 1 ≤ (0 : Int) ∧ (0 : Int) ≤ q + 1
      have this : p ≤ (0 : Int) ∧ (0 : Int) ≤ q := this
      omega
  · rw [if_neg e]
    have := h i
    rw [List.getD_eq_getElem?_getD] at this
    omega
def loops_hop (_ _ _ : Nat) : Option LSpec := none
noncomputable def ss_hop : List (Nat × FSpec) := [(79, ownS), (143, nearS), (76, vhPS), (144, bondsPS)]
theorem ssOk_hop : FTolds Try.prog ss_hop := ⟨s_l05Own, s_near, s_VHS, s_bondsS, trivial⟩
noncomputable def Γ_hop : Ctx := ctxOf Try.prog tys fs ss_hop loops_hop
noncomputable def d_hop (w g : Int) (l : LI) (i k : Int) : Option (((Int × (Int × (List Int))) × (Int × Bool))) := bif inB i (List.length l) then (bif List.getD l (0 + i.toNat) (0 : Int) == 0 then (some (((0, (0, [])), (0, false)))) else (Option.bind (ownG (w, g, sub l 0 (List.length l))) fun (r0 : (Int × (Int × (List Int)))) => (bif inB i (List.length r0.2.2) then (bif inB i (List.length r0.2.2) then (Option.bind (nearG ((w, g, sub l 0 (List.length l)), i)) fun (r1 : (List Int)) => (bif inB k (List.length r1) then (bif inB (List.getD r1 (0 + k.toNat) (0 : Int)) (List.length r0.2.2) then (bif inB (List.getD r1 (0 + k.toNat) (0 : Int)) (List.length r0.2.2) then (Option.bind (vhPG (r0.1, r0.2.1, sub ((List.set r0.2.2 (0 + i.toNat) (IntKind.i64.wrap (List.getD r0.2.2 (0 + i.toNat) (0 : Int) - 1))).set (0 + Int.toNat (List.getD r1 (0 + k.toNat) (0 : Int))) (IntKind.i64.wrap ((List.set r0.2.2 (0 + i.toNat) (IntKind.i64.wrap (List.getD r0.2.2 (0 + i.toNat) (0 : Int) - 1))).getD (0 + Int.toNat (List.getD r1 (0 + k.toNat) (0 : Int))) (0 : Int) + 1))) 0 (List.length r0.2.2))) fun (r2 : Bool) => (bif !r2 then (some (((0, (0, [])), (0, false)))) else (Option.bind (bondsPG (w, g, sub l 0 (List.length l))) fun (r3 : Int) => (Option.bind (bondsPG (r0.1, r0.2.1, sub ((List.set r0.2.2 (0 + i.toNat) (IntKind.i64.wrap (List.getD r0.2.2 (0 + i.toNat) (0 : Int) - 1))).set (0 + Int.toNat (List.getD r1 (0 + k.toNat) (0 : Int))) (IntKind.i64.wrap ((List.set r0.2.2 (0 + i.toNat) (IntKind.i64.wrap (List.getD r0.2.2 (0 + i.toNat) (0 : Int) - 1))).getD (0 + Int.toNat (List.getD r1 (0 + k.toNat) (0 : Int))) (0 : Int) + 1))) 0 (List.length r0.2.2))) fun (r4 : Int) => (some (((r0.1, (r0.2.1, sub ((List.set r0.2.2 (0 + i.toNat) (IntKind.i64.wrap (List.getD r0.2.2 (0 + i.toNat) (0 : Int) - 1))).set (0 + Int.toNat (List.getD r1 (0 + k.toNat) (0 : Int))) (IntKind.i64.wrap ((List.set r0.2.2 (0 + i.toNat) (IntKind.i64.wrap (List.getD r0.2.2 (0 + i.toNat) (0 : Int) - 1))).getD (0 + Int.toNat (List.getD r1 (0 + k.toNat) (0 : Int))) (0 : Int) + 1))) 0 (List.length r0.2.2))), (IntKind.i64.wrap (r3 - r4), true)))))))) else (none)) else (none)) else (none))) else (none)) else (none)))) else (none)
theorem t_hop (w g : Int) (l : LI) (i k : Int) : (fnT Γ_hop 10 81 [.ptr HD, I64, I64] [HD, I64, .bool] ((w, g, l), i, k)).den = d_hop w g l i k := by kernel_rfl
theorem p_hop (w g : Int) (l : LI) (i k : Int) (r : ((Int × (Int × (List Int))) × (Int × Bool))) (h : hopG ((w, g, l), i, k) = some r) : d_hop w g l i k = some r := by
  obtain ⟨⟨hk, h0, h1, h2, h3⟩, rfl⟩ := if_some (show (if okH (w, g, l) ∧ 0 ≤ i ∧ i < (l.length : Int) ∧ 0 ≤ k ∧ k < 4 then some (hopF w g l i k) else none) = some r from h)
  have hkk := hk
  obtain ⟨z, hl, ha⟩ := hk
  have z : szOk w g := z
  have hl : (l.length : Int) = w * g := hl
  have ha : areB 0 1000 l = true := ha
  have wg := wg_b z
  have k1 : ownG (w, g, l) = some (w, g, l) := if_pos (by show l.length ≤ 2 ^ 30; omega)
  have k2 : nearG ((w, g, l), i) = some (nbr w g (i % w) (i / w)) := if_pos ⟨z, h0, by show i < 2 ^ 10; omega⟩
  have q := nbr_ok z (i % w) (i / w) k.toNat (by omega)
  have b := are_get ha (by decide) (by decide)
  have bi := b i.toNat
  have bs := set_bnd b (v := l.getD i.toNat 0 - 1) (by omega) (by omega) i.toNat ((nbr w g (i % w) (i / w)).getD k.toNat 0).toNat
  have k3 : vhPG (w, g, hopL w g l i k) = some (vhB (w, g, hopL w g l i k)) := if_pos (by show (hopL w g l i k).length < 2 ^ 62; rw [hopL_len]; omega)
  have k4 : bondsPG (w, g, l) = some (bondsF w g l) := if_pos hkk
  unfold d_hop hopF
  simp only [inB_int h0 h1, cond_true, Nat.zero_add, beqD, sub_all, k1, k2, Option.bind_some, inB_int h2 (show k < ((nbr w g (i % w) (i / w)).length : Int) from h3), inB_int q.1 (show (nbr w g (i % w) (i / w)).getD k.toNat 0 < l.length by omega), wrap64 (n := l.getD i.toNat 0 - 1) (by omega) (by omega), wrap64 (n := (l.set i.toNat (l.getD i.toNat 0 - 1)).getD ((nbr w g (i % w) (i / w)).getD k.toNat 0).toNat 0 + 1) (by omega) (by omega)]
  cases decide (l.getD i.toNat 0 = 0) with
  | true => rfl
  | false =>
    have hs : sub ((l.set i.toNat (l.getD i.toNat 0 - 1)).set ((nbr w g (i % w) (i / w)).getD k.toNat 0).toNat ((l.set i.toNat (l.getD i.toNat 0 - 1)).getD ((nbr w g (i % w) (i / w)).getD k.toNat 0).toNat 0 + 1)) 0 l.length = hopL w g l i k := by
      have := sub_all (hopL w g l i k)
      rw [hopL_len] at this
      exact this
    rw [hs]
    simp only [cond_false, k3, Option.bind_some]
    by_cases ok : okH (w, g, hopL w g l i k)
    · have k5 : bondsPG (w, g, hopL w g l i k) = some (bondsF w g (hopL w g l i k)) := if_pos ok
      have b1 := bonds_b hkk
      have b2 := bonds_b ok
      rw [vh_ok.2 ok, decide_eq_true ok]
      simp only [Bool.not_true, cond_false, cond_true, k4, k5, Option.bind_some, wrap64 (n := bondsF w g l - bondsF w g (hopL w g l i k)) (by omega) (by omega)]
    · rw [show vhB (w, g, hopL w g l i k) = false from Bool.eq_false_iff.2 fun h => ok (vh_ok.1 h), decide_eq_false ok]
      rfl
theorem s_hop : FTold Try.prog 81 hopS := walkedF (fs := fs) (ss := ss_hop) (loop := loops_hop) tysOk mixed fnsOk ssOk_hop 10 81 [.ptr HD, I64, I64] [HD, I64, .bool] rfl _ fun ((w, g, l), i, k) r h => (t_hop w g l i k).trans (p_hop w g l i k r h)
def hasG (x : HT × Int × Int) : Option Bool := if okH x.1 ∧ 0 ≤ x.2.1 ∧ x.2.1 < x.1.1 ∧ 0 ≤ x.2.2 ∧ x.2.2 < x.1.2.1 then some true else none
def hasS : FSpec := ⟨[HD, I64, I64], [.bool], hasG⟩
def loops_has (_ _ _ : Nat) : Option LSpec := none
noncomputable def ss_has : List (Nat × FSpec) := [(83, vhS), (84, withinS)]
theorem ssOk_has : FTolds Try.prog ss_has := ⟨s_VHI, s_within, trivial⟩
noncomputable def Γ_has : Ctx := ctxOf Try.prog tys fs ss_has loops_has
noncomputable def d_has (w g : Int) (l : LI) (x y : Int) : Option (Bool) := Option.bind (vhG (w, g, sub l 0 (List.length l))) fun (r0 : Bool) => (bif r0 then (Option.bind (withinG (x, 0, IntKind.i64.wrap (w - 1))) fun (r1 : Bool) => (bif r1 then (Option.bind (withinG (y, 0, IntKind.i64.wrap (g - 1))) fun (r2 : Bool) => (some (r2))) else (some (false)))) else (some (false)))
theorem t_has (w g : Int) (l : LI) (x y : Int) : (fnT Γ_has 10 149 [HD, I64, I64] [.bool] ((w, g, l), x, y)).den = d_has w g l x y := by kernel_rfl
theorem p_has (w g : Int) (l : LI) (x y : Int) (r : Bool) (h : hasG ((w, g, l), x, y) = some r) : d_has w g l x y = some r := by
  obtain ⟨⟨hk, h0, h1, h2, h3⟩, rfl⟩ := if_some (show (if okH (w, g, l) ∧ 0 ≤ x ∧ x < w ∧ 0 ≤ y ∧ y < g then some true else none) = some r from h)
  have hkk := hk
  obtain ⟨z, hl, _⟩ := hk
  have z : szOk w g := z
  have hl : (l.length : Int) = w * g := hl
  have wg := wg_b z
  obtain ⟨z1, z2, z3, z4⟩ := z
  have k1 : vhG (w, g, l) = some true := (if_pos (by show l.length < 2 ^ 62; omega)).trans (congrArg some (vh_ok.2 hkk))
  unfold d_has withinG
  rw [wrap64 (n := w - 1) (by omega) (by omega), wrap64 (n := g - 1) (by omega) (by omega)]
  simp only [sub_all, k1, Option.bind_some, cond_true, decide_eq_true h0, decide_eq_true h2, decide_eq_true (show x ≤ w - 1 by omega), decide_eq_true (show y ≤ g - 1 by omega), Bool.and_self]
theorem s_has : FTold Try.prog 149 hasS := walkedF (fs := fs) (ss := ss_has) (loop := loops_has) tysOk mixed fnsOk ssOk_has 10 149 [HD, I64, I64] [.bool] rfl _ fun ((w, g, l), x, y) r h => (t_has w g l x y).trans (p_has w g l x y r h)
theorem cell_xy {w g x y : Int} (z : szOk w g) (h0 : 0 ≤ x) (h1 : x < w) (h2 : 0 ≤ y) (h3 : y < g) : cellF w g x y = x + w * y ∧ 0 ≤ x + w * y ∧ x + w * y < w * g ∧ (x + w * y) % w = x ∧ (x + w * y) / w = y := by
  have c := cell_ok z x y
  have e : cellF w g x y = x + w * y := by
    unfold cellF
    rw [Int.emod_eq_of_lt h0 h1, Int.emod_eq_of_lt h2 h3]
  obtain ⟨z1, _, _, _⟩ := z
  refine ⟨e, by omega, by omega, ?_, ?_⟩
  · rw [Int.add_mul_emod_self_left, Int.emod_eq_of_lt h0 h1]
  · rw [Int.add_mul_ediv_left _ _ (by omega), Int.ediv_eq_zero_of_lt h0 h1, Int.zero_add]
def hopTG (x : HT × Int × Int × Int) : Option (HT × Int × Bool) := if okH x.1 ∧ 0 ≤ x.2.1 ∧ x.2.1 < x.1.1 ∧ 0 ≤ x.2.2.1 ∧ x.2.2.1 < x.1.2.1 ∧ 0 ≤ x.2.2.2 ∧ x.2.2.2 < 4 then some (hopF x.1.1 x.1.2.1 x.1.2.2 (x.2.1 + x.1.1 * x.2.2.1) x.2.2.2) else none
def hopTS : FSpec := ⟨[HD, I64, I64, I64], [HD, I64, .bool], hopTG⟩
def loops_HopTo (_ _ _ : Nat) : Option LSpec := none
noncomputable def ss_HopTo : List (Nat × FSpec) := [(149, hasS), (84, withinS), (73, topS), (87, clonedS), (139, cellS), (140, besideS), (83, vhS), (150, bondsS)]
theorem ssOk_HopTo : FTolds Try.prog ss_HopTo := ⟨s_has, s_within, s_top, s_cloned, s_cell, s_beside, s_VHI, s_bonds, trivial⟩
noncomputable def Γ_HopTo : Ctx := ctxOf Try.prog tys fs ss_HopTo loops_HopTo
noncomputable def d_HopTo (w g : Int) (l : LI) (x y k : Int) : Option (((Int × (Int × (List Int))) × (Int × Bool))) := Option.bind (hasG ((w, g, sub l 0 (List.length l)), x, y)) fun (r0 : Bool) => (bif !r0 then (some (((0, (0, [])), (0, false)))) else (Option.bind (withinG (k, 0, 3)) fun (r1 : Bool) => (bif !r1 then (some (((0, (0, [])), (0, false)))) else (Option.bind (topG ((w, g, sub l 0 (List.length l)), x, y)) fun (r2 : Int) => (bif r2 == 0 then (some (((0, (0, [])), (0, false)))) else (Option.bind (clonedG (w, g, sub l 0 (List.length l))) fun (r3 : (Int × (Int × (List Int)))) => (Option.bind (cellG ((w, g, sub l 0 (List.length l)), x, y)) fun (r4 : Int) => (bif inB r4 (List.length r3.2.2) then (bif inB r4 (List.length r3.2.2) then (Option.bind (besideG ((w, g, sub l 0 (List.length l)), x, y)) fun (r5 : (List Int)) => (bif inB k (List.length r5) then (bif inB (List.getD r5 (0 + k.toNat) (0 : Int)) (List.length r3.2.2) then (bif inB (List.getD r5 (0 + k.toNat) (0 : Int)) (List.length r3.2.2) then (Option.bind (vhG (r3.1, r3.2.1, sub ((List.set r3.2.2 (0 + Int.toNat r4) (IntKind.i64.wrap (List.getD r3.2.2 (0 + Int.toNat r4) (0 : Int) - 1))).set (0 + Int.toNat (List.getD r5 (0 + k.toNat) (0 : Int))) (IntKind.i64.wrap ((List.set r3.2.2 (0 + Int.toNat r4) (IntKind.i64.wrap (List.getD r3.2.2 (0 + Int.toNat r4) (0 : Int) - 1))).getD (0 + Int.toNat (List.getD r5 (0 + k.toNat) (0 : Int))) (0 : Int) + 1))) 0 (List.length r3.2.2))) fun (r6 : Bool) => (bif !r6 then (some (((0, (0, [])), (0, false)))) else (Option.bind (bondsG (w, g, sub l 0 (List.length l))) fun (r7 : Int) => (Option.bind (bondsG (r3.1, r3.2.1, sub ((List.set r3.2.2 (0 + Int.toNat r4) (IntKind.i64.wrap (List.getD r3.2.2 (0 + Int.toNat r4) (0 : Int) - 1))).set (0 + Int.toNat (List.getD r5 (0 + k.toNat) (0 : Int))) (IntKind.i64.wrap ((List.set r3.2.2 (0 + Int.toNat r4) (IntKind.i64.wrap (List.getD r3.2.2 (0 + Int.toNat r4) (0 : Int) - 1))).getD (0 + Int.toNat (List.getD r5 (0 + k.toNat) (0 : Int))) (0 : Int) + 1))) 0 (List.length r3.2.2))) fun (r8 : Int) => (some (((r3.1, (r3.2.1, sub ((List.set r3.2.2 (0 + Int.toNat r4) (IntKind.i64.wrap (List.getD r3.2.2 (0 + Int.toNat r4) (0 : Int) - 1))).set (0 + Int.toNat (List.getD r5 (0 + k.toNat) (0 : Int))) (IntKind.i64.wrap ((List.set r3.2.2 (0 + Int.toNat r4) (IntKind.i64.wrap (List.getD r3.2.2 (0 + Int.toNat r4) (0 : Int) - 1))).getD (0 + Int.toNat (List.getD r5 (0 + k.toNat) (0 : Int))) (0 : Int) + 1))) 0 (List.length r3.2.2))), (IntKind.i64.wrap (r7 - r8), true)))))))) else (none)) else (none)) else (none))) else (none)) else (none)))))))))
theorem t_HopTo (w g : Int) (l : LI) (x y k : Int) : (fnT Γ_HopTo 10 89 [HD, I64, I64, I64] [HD, I64, .bool] ((w, g, l), x, y, k)).den = d_HopTo w g l x y k := by kernel_rfl
theorem p_HopTo (w g : Int) (l : LI) (x y k : Int) (r : ((Int × (Int × (List Int))) × (Int × Bool))) (h : hopTG ((w, g, l), x, y, k) = some r) : d_HopTo w g l x y k = some r := by
  obtain ⟨⟨hk, x0, x1, y0, y1, h2, h3⟩, rfl⟩ := if_some (show (if okH (w, g, l) ∧ 0 ≤ x ∧ x < w ∧ 0 ≤ y ∧ y < g ∧ 0 ≤ k ∧ k < 4 then some (hopF w g l (x + w * y) k) else none) = some r from h)
  have hkk := hk
  obtain ⟨z, hl, ha⟩ := hk
  have z : szOk w g := z
  have hl : (l.length : Int) = w * g := hl
  have ha : areB 0 1000 l = true := ha
  have wg := wg_b z
  obtain ⟨c1, c2, c3, c4, c5⟩ := cell_xy z x0 x1 y0 y1
  have zz := z
  obtain ⟨z1, z2, z3, z4⟩ := zz
  have r0 : hasG ((w, g, l), x, y) = some true := if_pos ⟨hkk, x0, x1, y0, y1⟩
  have r1 : topG ((w, g, l), x, y) = some (ownF w g l x y) := if_pos ⟨z, hl, by show -(2 ^ 10) ≤ x; omega, by show x ≤ 2 ^ 10; omega, by show -(2 ^ 10) ≤ y; omega, by show y ≤ 2 ^ 10; omega⟩
  have r2 : clonedG (w, g, l) = some (w, g, l) := if_pos ⟨by show 0 < l.length; omega, by show l.length ≤ 2 ^ 30; omega⟩
  have r3 : cellG ((w, g, l), x, y) = some (x + w * y) := (if_pos ⟨z, by show -(2 ^ 20) ≤ x; omega, by show x ≤ 2 ^ 20; omega, by show -(2 ^ 20) ≤ y; omega, by show y ≤ 2 ^ 20; omega⟩).trans (congrArg some c1)
  have r4 : besideG ((w, g, l), x, y) = some (nbr w g x y) := if_pos ⟨z, by show -(2 ^ 10) ≤ x; omega, by show x ≤ 2 ^ 10; omega, by show -(2 ^ 10) ≤ y; omega, by show y ≤ 2 ^ 10; omega⟩
  have ow : ownF w g l x y = l.getD (x + w * y).toNat 0 := by unfold ownF; rw [c1]
  generalize x + w * y = i at *
  have r4 : besideG ((w, g, l), x, y) = some (nbr w g (i % w) (i / w)) := by rw [c4, c5]; exact r4
  have q := nbr_ok z (i % w) (i / w) k.toNat (by omega)
  have b := are_get ha (by decide) (by decide)
  have bi := b i.toNat
  have bs := set_bnd b (v := l.getD i.toNat 0 - 1) (by omega) (by omega) i.toNat ((nbr w g (i % w) (i / w)).getD k.toNat 0).toNat
  have k3 : vhG (w, g, hopL w g l i k) = some (vhB (w, g, hopL w g l i k)) := if_pos (by show (hopL w g l i k).length < 2 ^ 62; rw [hopL_len]; omega)
  have k4 : bondsG (w, g, l) = some (bondsF w g l) := if_pos hkk
  unfold d_HopTo hopF withinG
  simp only [sub_all, r0, Option.bind_some, Bool.not_true, cond_false, decide_eq_true h2, decide_eq_true (show k ≤ 3 by omega), Bool.and_self, r1, ow, beqD, r2, r3, r4, inB_int c2 (show i < l.length by omega), cond_true, Nat.zero_add, inB_int h2 (show k < ((nbr w g (i % w) (i / w)).length : Int) from h3), inB_int q.1 (show (nbr w g (i % w) (i / w)).getD k.toNat 0 < l.length by omega), wrap64 (n := l.getD i.toNat 0 - 1) (by omega) (by omega), wrap64 (n := (l.set i.toNat (l.getD i.toNat 0 - 1)).getD ((nbr w g (i % w) (i / w)).getD k.toNat 0).toNat 0 + 1) (by omega) (by omega)]
  cases decide (l.getD i.toNat 0 = 0) with
  | true => rfl
  | false =>
    have hs : sub ((l.set i.toNat (l.getD i.toNat 0 - 1)).set ((nbr w g (i % w) (i / w)).getD k.toNat 0).toNat ((l.set i.toNat (l.getD i.toNat 0 - 1)).getD ((nbr w g (i % w) (i / w)).getD k.toNat 0).toNat 0 + 1)) 0 l.length = hopL w g l i k := by
      have := sub_all (hopL w g l i k)
      rw [hopL_len] at this
      exact this
    rw [hs]
    simp only [cond_false, k3, Option.bind_some]
    by_cases ok : okH (w, g, hopL w g l i k)
    · have k5 : bondsG (w, g, hopL w g l i k) = some (bondsF w g (hopL w g l i k)) := if_pos ok
      have b1 := bonds_b hkk
      have b2 := bonds_b ok
      rw [vh_ok.2 ok, decide_eq_true ok]
      simp only [Bool.not_true, cond_false, cond_true, k4, k5, Option.bind_some, wrap64 (n := bondsF w g l - bondsF w g (hopL w g l i k)) (by omega) (by omega)]
    · rw [show vhB (w, g, hopL w g l i k) = false from Bool.eq_false_iff.2 fun h => ok (vh_ok.1 h), decide_eq_false ok]
      rfl
theorem s_HopTo : FTold Try.prog 89 hopTS := walkedF (fs := fs) (ss := ss_HopTo) (loop := loops_HopTo) tysOk mixed fnsOk ssOk_HopTo 10 89 [HD, I64, I64, I64] [HD, I64, .bool] rfl _ fun ((w, g, l), x, y, k) r h => (t_HopTo w g l x y k).trans (p_HopTo w g l x y k r h)
end Go.Proofs.Ytjggcekliaalgaa
