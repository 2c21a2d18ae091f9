/- Melting steps. -/
import Derived.Test.YtjggcekliaalgaaH3
namespace Go.Proofs.Ytjggcekliaalgaa
open Go.Ab
theorem are_get {p q : Int} {l : LI} (h : areB p q l = true) (h0 : p ≤ 0) (h1 : 0 ≤ q) (i : Nat) : p ≤ l.getD i 0 ∧ l.getD i 0 ≤ q := by
  by_cases hi : i < l.length
  · have := List.all_eq_true.1 h (l[i]) (List.getElem_mem _)
    rw [List.getD_eq_getElem?_getD, List.getElem?_eq_getElem hi]
    simpa using this
  · rw [List.getD_eq_getElem?_getD, List.getElem?_eq_none (by omega)]
    exact ⟨h0, h1⟩
theorem inB_int {k : Int} {n : Nat} (h0 : 0 ≤ k) (h1 : k < n) : inB k n = true := by
  unfold inB
  rw [decide_eq_true h0, decide_eq_true h1]; rfl
/-- how many of the first n -/
def cnt (p : Nat → Bool) : Nat → Int
  | 0 => 0
  | n + 1 => bif p n then cnt p n + 1 else cnt p n
theorem cnt_b (p : Nat → Bool) : ∀ n : Nat, 0 ≤ cnt p n ∧ cnt p n ≤ n
  | 0 => ⟨Int.le_refl _, Int.le_refl _⟩
  | n + 1 => by
    have := cnt_b p n
    unfold cnt
    cases p n
    · exact ⟨this.1, by show cnt p n ≤ _; omega⟩
    · exact ⟨by show 0 ≤ cnt p n + 1; omega, by show cnt p n + 1 ≤ _; omega⟩
theorem cell_ok {w g : Int} (h : szOk w g) (x y : Int) : 0 ≤ cellF w g x y ∧ cellF w g x y < w * g := by
  obtain ⟨h1, h2, h3, h4⟩ := h
  have := cell_lt w g x y h1 h2 h3 h4
  exact ⟨this.1, this.2.1⟩
theorem nbr_ok {w g : Int} (h : szOk w g) (x y : Int) (j : Nat) (hj : j < 4) : 0 ≤ (nbr w g x y).getD j 0 ∧ (nbr w g x y).getD j 0 < w * g := by
  have hc : j = 0 ∨ j = 1 ∨ j = 2 ∨ j = 3 := by omega
  rcases hc with rfl | rfl | rfl | rfl <;> exact cell_ok h _ _
theorem cell_self {w g : Int} (h : szOk w g) {i : Int} (h0 : 0 ≤ i) (h1 : i < w * g) : cellF w g (i % w) (i / w) = i := by
  obtain ⟨a, b, c, d⟩ := h
  unfold cellF
  have e : i / w < g := Int.ediv_lt_of_lt_mul (by omega) (by rw [Int.mul_comm]; exact h1)
  have f : 0 ≤ i / w := Int.ediv_nonneg h0 (by omega)
  rw [Int.emod_emod_of_dvd _ (Int.dvd_refl _), Int.emod_eq_of_lt f e]
  exact Int.emod_add_mul_ediv i w
def okH (x : HT) : Prop := szOk x.1 x.2.1 ∧ (x.2.2.length : Int) = x.1 * x.2.1 ∧ areB 0 1000 x.2.2 = true
instance (x : HT) : Decidable (okH x) := by unfold okH; exact inferInstance
theorem vh_ok {x : HT} : vhB x = true ↔ okH x := by
  unfold vhB okH
  rw [Bool.and_eq_true, Bool.and_eq_true, decide_eq_true_iff, decide_eq_true_iff]
def ownF (w g : Int) (l : LI) (x y : Int) : Int := l.getD (cellF w g x y).toNat 0
def lowP (w g : Int) (l : LI) (x y : Int) (j : Nat) : Bool := decide (l.getD ((nbr w g x y).getD j 0).toNat 0 < ownF w g l x y)
def meltC (w g : Int) (l : LI) (n x y : Int) : Bool := decide (1 ≤ ownF w g l x y) && decide (n ≤ cnt (lowP w g l x y) 4)
def meltV (w g : Int) (l : LI) (n x y : Int) : Int := bif meltC w g l n x y then ownF w g l x y - 1 else ownF w g l x y
def topG (x : HT × Int × Int) : Option Int := if szOk x.1.1 x.1.2.1 ∧ (x.1.2.2.length : Int) = x.1.1 * x.1.2.1 ∧ -(2 ^ 10) ≤ x.2.1 ∧ x.2.1 ≤ 2 ^ 10 ∧ -(2 ^ 10) ≤ x.2.2 ∧ x.2.2 ≤ 2 ^ 10 then some (ownF x.1.1 x.1.2.1 x.1.2.2 x.2.1 x.2.2) else none
def topS : FSpec := ⟨[HD, I64, I64], [I64], topG⟩
def loops_top (_ _ _ : Nat) : Option LSpec := none
noncomputable def ss_top : List (Nat × FSpec) := [(139, cellS)]
theorem ssOk_top : FTolds Try.prog ss_top := ⟨s_cell, trivial⟩
noncomputable def Γ_top : Ctx := ctxOf Try.prog tys fs ss_top loops_top
noncomputable def d_top (w g : Int) (l : LI) (x y : Int) : Option (Int) := Option.bind (cellG ((w, g, sub l 0 (List.length l)), x, y)) fun (r0 : Int) => (bif inB r0 (List.length l) then (some (List.getD l (0 + Int.toNat r0) (0 : Int))) else (none))
theorem t_top (w g : Int) (l : LI) (x y : Int) : (fnT Γ_top 10 73 [HD, I64, I64] [I64] ((w, g, l), x, y)).den = d_top w g l x y := by kernel_rfl
theorem p_top (w g : Int) (l : LI) (x y : Int) (r : Int) (h : topG ((w, g, l), x, y) = some r) : d_top w g l x y = some r := by
  obtain ⟨⟨z, hl, h1, h2, h3, h4⟩, rfl⟩ := if_some (show (if szOk w g ∧ (l.length : Int) = w * g ∧ -(2 ^ 10) ≤ x ∧ x ≤ 2 ^ 10 ∧ -(2 ^ 10) ≤ y ∧ y ≤ 2 ^ 10 then some (ownF w g l x y) else none) = some r from h)
  have k1 : cellG ((w, g, l), x, y) = some (cellF w g x y) := if_pos ⟨z, by show -(2 ^ 20) ≤ x; omega, by show x ≤ 2 ^ 20; omega, by show -(2 ^ 20) ≤ y; omega, by show y ≤ 2 ^ 20; omega⟩
  have c := cell_ok z x y
  unfold d_top ownF
  simp only [sub_all, k1, Option.bind_some, inB_int c.1 (show cellF w g x y < l.length by omega), cond_true, Nat.zero_add]
theorem s_top : FTold Try.prog 73 topS := walkedF (fs := fs) (ss := ss_top) (loop := loops_top) tysOk mixed fnsOk ssOk_top 10 73 [HD, I64, I64] [I64] rfl _ fun ((w, g, l), x, y) r h => (t_top w g l x y).trans (p_top w g l x y r h)
def mel1G (x : HT × Int × Int × Int) : Option Int := if okH x.1 ∧ -(2 ^ 10) ≤ x.2.1 ∧ x.2.1 ≤ 2 ^ 10 ∧ -(2 ^ 10) ≤ x.2.2.1 ∧ x.2.2.1 ≤ 2 ^ 10 then some (meltV x.1.1 x.1.2.1 x.1.2.2 x.2.2.2 x.2.1 x.2.2.1) else none
def mel1S : FSpec := ⟨[HD, I64, I64, I64], [I64], mel1G⟩
def L_melt1_1 : LSpec := ⟨[3, 4, 9, 15, 16, 17], ⟨Shs.at 32 [(3, (.fn (Fn.func 75) .nil (.cons (.ptr 1034 0 0) .nil))), (4, (.ptr 1124206641344 0 0)), (9, (.int IntKind.i64)), (15, (.slc 1124206641345)), (16, (.int IntKind.i64)), (17, (.int IntKind.i64))], [(2, (.arr false (EK.int IntKind.i64))), (1029, (.vals true (.cons (.int IntKind.i64) (.cons (.int IntKind.i64) (.cons (.slc 2) .nil))))), (1034, (.vals true (.cons (.int IntKind.i64) .nil))), (1124206641344, (.vals true (.cons (.int IntKind.i64) (.cons (.int IntKind.i64) (.cons (.slc 2) .nil))))), (1124206641345, (.arr true (EK.int IntKind.i64)))]⟩, [⟨.ext 0, [9], ⟨Shs.at 32 [(9, (.int IntKind.i64))], [(2, (.arr false (EK.int IntKind.i64))), (1029, (.vals true (.cons (.int IntKind.i64) (.cons (.int IntKind.i64) (.cons (.slc 2) .nil))))), (1034, (.vals true (.cons (.int IntKind.i64) .nil)))]⟩⟩], fun _ => bigN⟩
def loops_melt1 (f k n : Nat) : Option LSpec := bif (Nat.beq f 74 && Nat.beq k 3 && Nat.beq n 1046) then some L_melt1_1 else none
abbrev S_melt1_1 : Type := (((Unit × Unit) × (Int × (Nat × (Int × (Int × Unit))))) × ((List Int) × ((Int × (Int × (Nat × Unit))) × ((Int × Unit) × ((Int × (Int × (Nat × Unit))) × ((List Int) × Unit))))))
abbrev R_melt1_1 : Type := ((Int × Unit) × ((List Int) × ((Int × (Int × (Nat × Unit))) × ((Int × Unit) × Unit))))
noncomputable def B_melt1_1 (y : S_melt1_1) : Option (S_melt1_1 ⊕ R_melt1_1) := bif decide (y.1.2.2.2.2.1 < y.1.2.2.2.1) then (bif inB y.1.2.2.2.2.1 y.1.2.2.1 then (bif inB (List.getD y.2.2.2.2.2.1 (0 + Int.toNat y.1.2.2.2.2.1) (0 : Int)) y.2.2.2.2.1.2.2.1 then (bif decide (List.getD y.2.1 (0 + Int.toNat (List.getD y.2.2.2.2.2.1 (0 + Int.toNat y.1.2.2.2.2.1) (0 : Int))) (0 : Int) < y.2.2.2.1.1) then (some (Sum.inl (((((), ()), (IntKind.i64.wrap (y.1.2.1 + 1), (y.1.2.2.1, (y.1.2.2.2.1, (IntKind.i64.wrap (y.1.2.2.2.2.1 + 1), ()))))), (y.2.1, ((y.2.2.1.1, (y.2.2.1.2.1, (y.2.2.1.2.2.1, ()))), ((y.2.2.2.1.1, ()), ((y.2.2.2.2.1.1, (y.2.2.2.2.1.2.1, (y.2.2.2.2.1.2.2.1, ()))), (y.2.2.2.2.2.1, ()))))))))) else (some (Sum.inl (((((), ()), (y.1.2.1, (y.1.2.2.1, (y.1.2.2.2.1, (IntKind.i64.wrap (y.1.2.2.2.2.1 + 1), ()))))), (y.2.1, ((y.2.2.1.1, (y.2.2.1.2.1, (y.2.2.1.2.2.1, ()))), ((y.2.2.2.1.1, ()), ((y.2.2.2.2.1.1, (y.2.2.2.2.1.2.1, (y.2.2.2.2.1.2.2.1, ()))), (y.2.2.2.2.2.1, ())))))))))) else (none)) else (none)) else (some (Sum.inr (((y.1.2.1, ()), (y.2.1, ((y.2.2.1.1, (y.2.2.1.2.1, (y.2.2.1.2.2.1, ()))), ((y.2.2.2.1.1, ()), ())))))))
noncomputable def ss_melt1 : List (Nat × FSpec) := [(73, topS), (140, besideS)]
theorem ssOk_melt1 : FTolds Try.prog ss_melt1 := ⟨s_top, s_beside, trivial⟩
noncomputable def Γ_melt1 : Ctx := ctxOf Try.prog tys fs ss_melt1 loops_melt1
noncomputable def d_melt1 (w g : Int) (l : LI) (x y n : Int) : Option (Int) := Option.bind (topG ((w, g, sub l 0 (List.length l)), x, y)) fun (r0 : Int) => (bif decide (r0 ≥ 1) then (Option.bind (besideG ((w, g, sub l 0 (List.length l)), x, y)) fun (r1 : (List Int)) => (Option.bind (iter B_melt1_1 bigN (((((), ()), (0, (List.length r1, (((List.length r1 : Nat) : Int), (0, ()))))), (l, ((w, (g, (List.length l, ()))), ((r0, ()), ((w, (g, (List.length l, ()))), (r1, ())))))))) fun (r2 : ((Int × Unit) × ((List Int) × ((Int × (Int × (Nat × Unit))) × ((Int × Unit) × Unit))))) => (bif decide (r2.1.1 ≥ n) then (some (IntKind.i64.wrap (r2.2.2.2.1.1 - 1))) else (some (r2.2.2.2.1.1))))) else (some (r0)))
theorem t_melt1 (w g : Int) (l : LI) (x y n : Int) : (fnT Γ_melt1 10 72 [HD, I64, I64, I64] [I64] ((w, g, l), x, y, n)).den = d_melt1 w g l x y n := by kernel_rfl
theorem p_melt1 (w g : Int) (l : LI) (x y n : Int) (r : Int) (h : mel1G ((w, g, l), x, y, n) = some r) : d_melt1 w g l x y n = some r := by
  obtain ⟨⟨⟨z, hl, ha⟩, h1, h2, h3, h4⟩, rfl⟩ := if_some (show (if okH (w, g, l) ∧ -(2 ^ 10) ≤ x ∧ x ≤ 2 ^ 10 ∧ -(2 ^ 10) ≤ y ∧ y ≤ 2 ^ 10 then some (meltV w g l n x y) else none) = some r from h)
  have z : szOk w g := z
  have hl : (l.length : Int) = w * g := hl
  have ha : areB 0 1000 l = true := ha
  have k1 : topG ((w, g, l), x, y) = some (ownF w g l x y) := if_pos ⟨z, hl, h1, h2, h3, h4⟩
  have k2 : besideG ((w, g, l), x, y) = some (nbr w g x y) := if_pos ⟨z, h1, h2, h3, h4⟩
  have b0 := are_get ha (by decide) (by decide) (cellF w g x y).toNat
  have hl' : (l.length : Int) = w * g := hl
  unfold d_melt1 meltV meltC
  simp only [sub_all, k1, k2, Option.bind_some]
  by_cases c1 : 1 ≤ ownF w g l x y
  · rw [decide_eq_true (show ownF w g l x y ≥ 1 from c1), cond_true, Bool.true_and]
    have key := iter_for (B := B_melt1_1) (fun j => ((((), ()), (cnt (lowP w g l x y) j, (4, (4, ((j : Int), ()))))), (l, ((w, (g, (l.length, ()))), ((ownF w g l x y, ()), ((w, (g, (l.length, ()))), (nbr w g x y, ()))))))) 0 4 ((cnt (lowP w g l x y) 4, ()), (l, ((w, (g, (l.length, ()))), ((ownF w g l x y, ()), ())))) (Nat.zero_le _) (by decide) (fun j _ hj => by
      have q := nbr_ok z x y j hj
      have cb := cnt_b (lowP w g l x y) j
      have e1 : decide ((j : Int) < 4) = true := decide_eq_true (by omega)
      unfold B_melt1_1
      simp only [e1, inB_int (show (0 : Int) ≤ (j : Int) by omega) (show (j : Int) < (4 : Nat) by omega), inc64 hj (show (4 : Nat) < 2 ^ 62 by decide), cond_true, Int.toNat_natCast, Nat.zero_add, inB_int q.1 (show (nbr w g x y).getD j 0 < l.length by omega), wrap64 (show -9223372036854775808 ≤ cnt (lowP w g l x y) j + 1 by omega) (show cnt (lowP w g l x y) j + 1 < 9223372036854775808 by omega)]
      rw [show decide (l.getD ((nbr w g x y).getD j 0).toNat 0 < ownF w g l x y) = lowP w g l x y j from rfl]
      rw [show cnt (lowP w g l x y) (j + 1) = bif lowP w g l x y j then cnt (lowP w g l x y) j + 1 else cnt (lowP w g l x y) j from rfl]
      cases lowP w g l x y j <;> rfl) (by
      unfold B_melt1_1
      rfl)
    refine (congrArg (fun z => Option.bind z _) (show iter B_melt1_1 bigN _ = _ from key)).trans ?_
    simp only [Option.bind_some]
    rw [show decide (cnt (lowP w g l x y) 4 ≥ n) = decide (n ≤ cnt (lowP w g l x y) 4) from rfl, wrap64 (by unfold ownF; omega) (by unfold ownF; omega)]
    cases decide (n ≤ cnt (lowP w g l x y) 4) <;> rfl
  · rw [decide_eq_false (show ¬ ownF w g l x y ≥ 1 from c1)]
    rfl
theorem s_melt1 : FTold Try.prog 72 mel1S := walkedF (fs := fs) (ss := ss_melt1) (loop := loops_melt1) tysOk mixed fnsOk ssOk_melt1 10 72 [HD, I64, I64, I64] [I64] rfl _ fun ((w, g, l), x, y, n) r h => (t_melt1 w g l x y n).trans (p_melt1 w g l x y n r h)
def stepL (w g : Int) (l : LI) (n : Int) : LI := mapR (fun i => meltV w g l n ((i : Int) % w) ((i : Int) / w)) l.length
def flowG (x : HT × Int × Int) : Option (HT × Bool) := if okH x.1 ∧ x.2.2 = -1 then some ((x.1.1, x.1.2.1, stepL x.1.1 x.1.2.1 x.1.2.2 x.2.1), decide (stepL x.1.1 x.1.2.1 x.1.2.2 x.2.1 ≠ x.1.2.2)) else none
def flowS : FSpec := ⟨[.ptr HD, I64, I64], [HD, .bool], flowG⟩
/-- whether one of the first has changed -/
def chg (p : Nat → Bool) : Nat → Bool
  | 0 => false
  | n + 1 => bif p n then true else chg p n
theorem chg_iff (p : Nat → Bool) : ∀ n, chg p n = true ↔ ∃ j, j < n ∧ p j = true
  | 0 => by simp [chg]
  | n + 1 => by
    unfold chg
    cases hp : p n with
    | true => exact ⟨fun _ => ⟨n, Nat.lt_succ_self _, hp⟩, fun _ => rfl⟩
    | false =>
      rw [cond_false, chg_iff p n]
      constructor
      · rintro ⟨j, h1, h2⟩; exact ⟨j, by omega, h2⟩
      · rintro ⟨j, h1, h2⟩
        refine ⟨j, ?_, h2⟩
        by_cases e : j = n
        · subst e; rw [hp] at h2; cases h2
        · omega
theorem own_i {w g : Int} {l : LI} (z : szOk w g) (hl : (l.length : Int) = w * g) {i : Nat} (hi : i < l.length) : ownF w g l ((i : Int) % w) ((i : Int) / w) = l.getD i 0 := by
  unfold ownF
  rw [cell_self z (by omega) (by omega), Int.toNat_natCast]
theorem step_chg {w g : Int} {l : LI} (n : Int) (z : szOk w g) (hl : (l.length : Int) = w * g) : chg (fun i => meltC w g l n ((i : Int) % w) ((i : Int) / w)) l.length = decide (stepL w g l n ≠ l) := by
  apply Bool.eq_iff_iff.2
  rw [chg_iff, decide_eq_true_iff]
  constructor
  · rintro ⟨j, hj, hc⟩ e
    have h1 : (stepL w g l n).getD j 0 = meltV w g l n ((j : Int) % w) ((j : Int) / w) := mapR_get _ _ hj
    rw [e] at h1
    unfold meltV at h1
    rw [hc, cond_true, own_i z hl hj] at h1
    omega
  · intro h
    cases hc : chg (fun i => meltC w g l n ((i : Int) % w) ((i : Int) / w)) l.length with
    | true => exact (chg_iff _ _).1 hc
    | false =>
      refine absurd ?_ h
      have hn : ∀ j, j < l.length → meltC w g l n ((j : Int) % w) ((j : Int) / w) = false := fun j hj => by
        cases hm : meltC w g l n ((j : Int) % w) ((j : Int) / w) with
        | false => rfl
        | true => rw [(chg_iff _ _).2 ⟨j, hj, hm⟩] at hc; cases hc
      apply List.ext_getElem (mapR_len _ _)
      intro i h1 h2
      have h3 := mapR_get (fun i : Nat => meltV w g l n ((i : Int) % w) ((i : Int) / w)) 0 h2
      have h4 : meltV w g l n ((i : Int) % w) ((i : Int) / w) = l.getD i 0 := by
        unfold meltV
        rw [hn i h2, cond_false, own_i z hl h2]
      rw [h4, List.getD_eq_getElem?_getD, List.getD_eq_getElem?_getD, List.getElem?_eq_getElem h2] at h3
      have h5 : i < (mapR (fun i : Nat => meltV w g l n ((i : Int) % w) ((i : Int) / w)) l.length).length := h1
      rw [List.getElem?_eq_getElem h5] at h3
      exact h3
def L_flow_1 : LSpec := ⟨[0, 1, 2, 6, 8, 9, 20, 21], ⟨Shs.at 82 [(0, (.ptr 2 0 0)), (1, (.int IntKind.i64)), (2, (.int IntKind.i64)), (6, (.ptr 2146435328 0 0)), (8, (.ptr 2146435329 0 0)), (9, .bool), (20, (.int IntKind.i64)), (21, (.int IntKind.i64))], [(2, (.vals false (.cons (.int IntKind.i64) (.cons (.int IntKind.i64) (.cons (.slc 3) .nil))))), (3, (.arr false (EK.int IntKind.i64))), (2146435328, (.vals true (.cons (.int IntKind.i64) (.cons (.int IntKind.i64) (.cons (.slc 2146435330) .nil))))), (2146435329, (.vals true (.cons (.int IntKind.i64) (.cons (.int IntKind.i64) (.cons (.slc 2146435331) .nil))))), (2146435330, (.arr true (EK.int IntKind.i64))), (2146435331, (.arr true (EK.int IntKind.i64)))]⟩, [⟨.ext 0, [6, 8, 9], ⟨Shs.at 82 [(6, (.ptr 2146435328 0 0)), (8, (.ptr 2146435329 0 0)), (9, .bool)], [(2, (.vals false (.cons (.int IntKind.i64) (.cons (.int IntKind.i64) (.cons (.slc 3) .nil))))), (3, (.arr false (EK.int IntKind.i64))), (2146435328, (.vals true (.cons (.int IntKind.i64) (.cons (.int IntKind.i64) (.cons (.slc 2146435330) .nil))))), (2146435329, (.vals true (.cons (.int IntKind.i64) (.cons (.int IntKind.i64) (.cons (.slc 2146435331) .nil))))), (2146435330, (.arr true (EK.int IntKind.i64))), (2146435331, (.arr true (EK.int IntKind.i64)))]⟩⟩], fun _ => bigN⟩
def L_flow_2 : LSpec := ⟨[0, 1, 2, 6, 8, 9, 10, 11, 12, 20, 21, 28, 29], ⟨Shs.at 82 [(0, (.ptr 2 0 0)), (1, (.int IntKind.i64)), (2, (.int IntKind.i64)), (6, (.ptr 2146435648 0 0)), (8, (.ptr 2146435649 0 0)), (9, .bool), (10, (.int IntKind.i64)), (11, (.slc 2146435650)), (12, (.int IntKind.i64)), (20, (.int IntKind.i64)), (21, (.int IntKind.i64)), (28, (.int IntKind.i64)), (29, (.int IntKind.i64))], [(2, (.vals false (.cons (.int IntKind.i64) (.cons (.int IntKind.i64) (.cons (.slc 3) .nil))))), (3, (.arr false (EK.int IntKind.i64))), (2146435648, (.vals true (.cons (.int IntKind.i64) (.cons (.int IntKind.i64) (.cons (.slc 2146435651) .nil))))), (2146435649, (.vals true (.cons (.int IntKind.i64) (.cons (.int IntKind.i64) (.cons (.slc 2146435652) .nil))))), (2146435650, (.arr true (EK.int IntKind.i64))), (2146435651, (.arr true (EK.int IntKind.i64))), (2146435652, (.arr true (EK.int IntKind.i64)))]⟩, [⟨.ext 2, [0, 1, 2, 6, 8, 9, 10, 12, 20, 21], ⟨Shs.at 82 [(0, (.ptr 2 0 0)), (1, (.int IntKind.i64)), (2, (.int IntKind.i64)), (6, (.ptr 2146435648 0 0)), (8, (.ptr 2146435649 0 0)), (9, .bool), (10, (.int IntKind.i64)), (12, (.int IntKind.i64)), (20, (.int IntKind.i64)), (21, (.int IntKind.i64))], [(2, (.vals false (.cons (.int IntKind.i64) (.cons (.int IntKind.i64) (.cons (.slc 3) .nil))))), (3, (.arr false (EK.int IntKind.i64))), (2146435648, (.vals true (.cons (.int IntKind.i64) (.cons (.int IntKind.i64) (.cons (.slc 2146435650) .nil))))), (2146435649, (.vals true (.cons (.int IntKind.i64) (.cons (.int IntKind.i64) (.cons (.slc 2146435651) .nil))))), (2146435650, (.arr true (EK.int IntKind.i64))), (2146435651, (.arr true (EK.int IntKind.i64)))]⟩⟩], fun _ => bigN⟩
def loops_flow (f k n : Nat) : Option LSpec := bif (Nat.beq f 136 && Nat.beq k 4 && Nat.beq n 1) then some L_flow_1 else bif (Nat.beq f 136 && Nat.beq k 9 && Nat.beq n 1) then some L_flow_2 else none
abbrev S_flow_2 : Type := ((Int × (Int × (Bool × (Int × (Nat × (Int × (Int × (Int × (Int × (Int × Unit)))))))))) × ((Int × (Int × (Nat × Unit))) × ((List Int) × ((Int × (Int × (Nat × Unit))) × ((Int × (Int × (Nat × Unit))) × ((List Int) × ((List Int) × ((List Int) × Unit))))))))
abbrev R_flow_2 : Type := ((Int × (Int × (Bool × (Int × (Int × (Int × (Int × Unit))))))) × ((Int × (Int × (Nat × Unit))) × ((List Int) × ((Int × (Int × (Nat × Unit))) × ((Int × (Int × (Nat × Unit))) × ((List Int) × ((List Int) × Unit)))))))
noncomputable def B_flow_2 (y : S_flow_2) : Option (S_flow_2 ⊕ R_flow_2) := bif decide (y.1.2.2.2.2.2.2.2.2.2.1 < y.1.2.2.2.2.2.2.2.2.1) then (bif inB y.1.2.2.2.2.2.2.2.2.2.1 y.1.2.2.2.2.1 then (bif inB (List.getD y.2.2.2.2.2.1 (0 + Int.toNat y.1.2.2.2.2.2.2.2.2.2.1) (0 : Int)) y.2.1.2.2.1 then (bif inB y.1.2.2.2.1 y.2.1.2.2.1 then (bif decide (IntKind.i64.wrap (y.1.2.1 * IntKind.i64.wrap (List.getD y.2.2.1 (0 + Int.toNat (List.getD y.2.2.2.2.2.1 (0 + Int.toNat y.1.2.2.2.2.2.2.2.2.2.1) (0 : Int))) (0 : Int) - List.getD y.2.2.1 (0 + Int.toNat y.1.2.2.2.1) (0 : Int))) > 0) then (some (Sum.inl (((y.1.1, (y.1.2.1, (y.1.2.2.1, (y.1.2.2.2.1, (y.1.2.2.2.2.1, (IntKind.i64.wrap (y.1.2.2.2.2.2.1 + 1), (y.1.2.2.2.2.2.2.1, (y.1.2.2.2.2.2.2.2.1, (y.1.2.2.2.2.2.2.2.2.1, (IntKind.i64.wrap (y.1.2.2.2.2.2.2.2.2.2.1 + 1), ())))))))))), ((y.2.1.1, (y.2.1.2.1, (y.2.1.2.2.1, ()))), (y.2.2.1, ((y.2.2.2.1.1, (y.2.2.2.1.2.1, (y.2.2.2.1.2.2.1, ()))), ((y.2.2.2.2.1.1, (y.2.2.2.2.1.2.1, (y.2.2.2.2.1.2.2.1, ()))), (y.2.2.2.2.2.1, (y.2.2.2.2.2.2.1, (y.2.2.2.2.2.2.2.1, ()))))))))))) else (some (Sum.inl (((y.1.1, (y.1.2.1, (y.1.2.2.1, (y.1.2.2.2.1, (y.1.2.2.2.2.1, (y.1.2.2.2.2.2.1, (y.1.2.2.2.2.2.2.1, (y.1.2.2.2.2.2.2.2.1, (y.1.2.2.2.2.2.2.2.2.1, (IntKind.i64.wrap (y.1.2.2.2.2.2.2.2.2.2.1 + 1), ())))))))))), ((y.2.1.1, (y.2.1.2.1, (y.2.1.2.2.1, ()))), (y.2.2.1, ((y.2.2.2.1.1, (y.2.2.2.1.2.1, (y.2.2.2.1.2.2.1, ()))), ((y.2.2.2.2.1.1, (y.2.2.2.2.1.2.1, (y.2.2.2.2.1.2.2.1, ()))), (y.2.2.2.2.2.1, (y.2.2.2.2.2.2.1, (y.2.2.2.2.2.2.2.1, ())))))))))))) else (none)) else (none)) else (none)) else (some (Sum.inr (((y.1.1, (y.1.2.1, (y.1.2.2.1, (y.1.2.2.2.1, (y.1.2.2.2.2.2.1, (y.1.2.2.2.2.2.2.1, (y.1.2.2.2.2.2.2.2.1, ()))))))), ((y.2.1.1, (y.2.1.2.1, (y.2.1.2.2.1, ()))), (y.2.2.1, ((y.2.2.2.1.1, (y.2.2.2.1.2.1, (y.2.2.2.1.2.2.1, ()))), ((y.2.2.2.2.1.1, (y.2.2.2.2.1.2.1, (y.2.2.2.2.1.2.2.1, ()))), (y.2.2.2.2.2.2.1, (y.2.2.2.2.2.2.2.1, ()))))))))))
abbrev S_flow_1 : Type := ((Int × (Int × (Bool × (Int × (Int × Unit))))) × ((Int × (Int × (Nat × Unit))) × ((List Int) × ((Int × (Int × (Nat × Unit))) × ((Int × (Int × (Nat × Unit))) × ((List Int) × ((List Int) × Unit)))))))
abbrev R_flow_1 : Type := ((Bool × Unit) × ((Int × (Int × (Nat × Unit))) × ((List Int) × ((Int × (Int × (Nat × Unit))) × ((Int × (Int × (Nat × Unit))) × ((List Int) × ((List Int) × Unit)))))))
noncomputable def B_flow_1 (y : S_flow_1) : Option (S_flow_1 ⊕ R_flow_1) := bif decide (y.1.2.2.2.2.1 < y.1.2.2.2.1) then (Option.bind (nearG ((y.2.1.1, y.2.1.2.1, sub y.2.2.1 0 y.2.1.2.2.1), y.1.2.2.2.2.1)) fun (r2 : (List Int)) => (Option.bind (iter B_flow_2 bigN (((y.1.1, (y.1.2.1, (y.1.2.2.1, (y.1.2.2.2.2.1, (List.length r2, (0, (y.1.2.2.2.1, (y.1.2.2.2.2.1, (((List.length r2 : Nat) : Int), (0, ())))))))))), ((y.2.1.1, (y.2.1.2.1, (y.2.1.2.2.1, ()))), (y.2.2.1, ((y.2.2.2.1.1, (y.2.2.2.1.2.1, (y.2.2.2.1.2.2.1, ()))), ((y.2.2.2.2.1.1, (y.2.2.2.2.1.2.1, (y.2.2.2.2.1.2.2.1, ()))), (r2, (y.2.2.2.2.2.1, (y.2.2.2.2.2.2.1, ())))))))))) fun (r3 : ((Int × (Int × (Bool × (Int × (Int × (Int × (Int × Unit))))))) × ((Int × (Int × (Nat × Unit))) × ((List Int) × ((Int × (Int × (Nat × Unit))) × ((Int × (Int × (Nat × Unit))) × ((List Int) × ((List Int) × Unit)))))))) => (bif decide (r3.1.2.2.2.2.1 ≥ r3.1.1) then (bif inB r3.1.2.2.2.1 r3.2.1.2.2.1 then (bif decide (IntKind.i64.wrap (List.getD r3.2.2.1 (0 + Int.toNat r3.1.2.2.2.1) (0 : Int) + r3.1.2.1) ≥ 0) then (bif inB r3.1.2.2.2.1 r3.2.2.2.2.1.2.2.1 then (bif inB r3.1.2.2.2.1 r3.2.2.2.2.1.2.2.1 then (some (Sum.inl (((r3.1.1, (r3.1.2.1, (true, (r3.1.2.2.2.2.2.1, (IntKind.i64.wrap (r3.1.2.2.2.2.2.2.1 + 1), ()))))), ((r3.2.1.1, (r3.2.1.2.1, (r3.2.1.2.2.1, ()))), (r3.2.2.1, ((r3.2.2.2.1.1, (r3.2.2.2.1.2.1, (r3.2.2.2.1.2.2.1, ()))), ((r3.2.2.2.2.1.1, (r3.2.2.2.2.1.2.1, (r3.2.2.2.2.1.2.2.1, ()))), (r3.2.2.2.2.2.1, (List.set r3.2.2.2.2.2.2.1 (0 + Int.toNat r3.1.2.2.2.1) (IntKind.i64.wrap (List.getD r3.2.2.2.2.2.2.1 (0 + Int.toNat r3.1.2.2.2.1) (0 : Int) + r3.1.2.1)), ())))))))))) else (none)) else (none)) else (some (Sum.inl (((r3.1.1, (r3.1.2.1, (r3.1.2.2.1, (r3.1.2.2.2.2.2.1, (IntKind.i64.wrap (r3.1.2.2.2.2.2.2.1 + 1), ()))))), ((r3.2.1.1, (r3.2.1.2.1, (r3.2.1.2.2.1, ()))), (r3.2.2.1, ((r3.2.2.2.1.1, (r3.2.2.2.1.2.1, (r3.2.2.2.1.2.2.1, ()))), ((r3.2.2.2.2.1.1, (r3.2.2.2.2.1.2.1, (r3.2.2.2.2.1.2.2.1, ()))), (r3.2.2.2.2.2.1, (r3.2.2.2.2.2.2.1, ()))))))))))) else (none)) else (some (Sum.inl (((r3.1.1, (r3.1.2.1, (r3.1.2.2.1, (r3.1.2.2.2.2.2.1, (IntKind.i64.wrap (r3.1.2.2.2.2.2.2.1 + 1), ()))))), ((r3.2.1.1, (r3.2.1.2.1, (r3.2.1.2.2.1, ()))), (r3.2.2.1, ((r3.2.2.2.1.1, (r3.2.2.2.1.2.1, (r3.2.2.2.1.2.2.1, ()))), ((r3.2.2.2.2.1.1, (r3.2.2.2.2.1.2.1, (r3.2.2.2.2.1.2.2.1, ()))), (r3.2.2.2.2.2.1, (r3.2.2.2.2.2.2.1, ()))))))))))))) else (some (Sum.inr (((y.1.2.2.1, ()), ((y.2.1.1, (y.2.1.2.1, (y.2.1.2.2.1, ()))), (y.2.2.1, ((y.2.2.2.1.1, (y.2.2.2.1.2.1, (y.2.2.2.1.2.2.1, ()))), ((y.2.2.2.2.1.1, (y.2.2.2.2.1.2.1, (y.2.2.2.2.1.2.2.1, ()))), (y.2.2.2.2.2.1, (y.2.2.2.2.2.2.1, ()))))))))))
noncomputable def ss_flow : List (Nat × FSpec) := [(79, ownS), (143, nearS)]
theorem ssOk_flow : FTolds Try.prog ss_flow := ⟨s_l05Own, s_near, trivial⟩
noncomputable def Γ_flow : Ctx := ctxOf Try.prog tys fs ss_flow loops_flow
noncomputable def d_flow (w g : Int) (l : LI) (n k : Int) : Option (((Int × (Int × (List Int))) × Bool)) := Option.bind (ownG (w, g, sub l 0 (List.length l))) fun (r0 : (Int × (Int × (List Int)))) => (Option.bind (iter B_flow_1 bigN (((n, (k, (false, (((List.length l : Nat) : Int), (0, ()))))), ((w, (g, (List.length l, ()))), (l, ((0, (0, (0, ()))), ((r0.1, (r0.2.1, (List.length r0.2.2, ()))), ([], (r0.2.2, ()))))))))) fun (r1 : ((Bool × Unit) × ((Int × (Int × (Nat × Unit))) × ((List Int) × ((Int × (Int × (Nat × Unit))) × ((Int × (Int × (Nat × Unit))) × ((List Int) × ((List Int) × Unit)))))))) => (some (((r1.2.2.2.2.1.1, (r1.2.2.2.2.1.2.1, sub r1.2.2.2.2.2.2.1 0 r1.2.2.2.2.1.2.2.1)), r1.1.1))))
theorem t_flow (w g : Int) (l : LI) (n k : Int) : (fnT Γ_flow 10 136 [.ptr HD, I64, I64] [HD, .bool] ((w, g, l), n, k)).den = d_flow w g l n k := by kernel_rfl
theorem flow2 {w g : Int} {l : LI} (n : Int) (z : szOk w g) (hl : (l.length : Int) = w * g) (ha : areB 0 1000 l = true) {i : Nat} (hi : i < l.length) (c : Bool) (o : LI) (L : Int) : iter B_flow_2 bigN (((n, (-1, (c, ((i : Int), (4, (0, (L, ((i : Int), (4, (0, ())))))))))), ((w, (g, (l.length, ()))), (l, ((0, (0, (0, ()))), ((w, (g, (l.length, ()))), (nbr w g ((i : Int) % w) ((i : Int) / w), ([], (o, ()))))))))) = some (((n, (-1, (c, ((i : Int), (cnt (lowP w g l ((i : Int) % w) ((i : Int) / w)) 4, (L, ((i : Int), ()))))))), ((w, (g, (l.length, ()))), (l, ((0, (0, (0, ()))), ((w, (g, (l.length, ()))), ([], (o, ())))))))) := by
  generalize hx : (i : Int) % w = x
  generalize hy : (i : Int) / w = y
  have ho : ownF w g l x y = l.getD i 0 := by rw [← hx, ← hy]; exact own_i z hl hi
  exact iter_for (B := B_flow_2) (fun j => (((n, (-1, (c, ((i : Int), (4, (cnt (lowP w g l x y) j, (L, ((i : Int), (4, ((j : Int), ())))))))))), ((w, (g, (l.length, ()))), (l, ((0, (0, (0, ()))), ((w, (g, (l.length, ()))), (nbr w g x y, ([], (o, ())))))))))) 0 4 _ (Nat.zero_le _) (by decide) (fun j _ hj => by
    have q := nbr_ok z x y j hj
    have cb := cnt_b (lowP w g l x y) j
    have e1 : decide ((j : Int) < 4) = true := decide_eq_true (by omega)
    have b1 := are_get ha (by decide) (by decide) ((nbr w g x y).getD j 0).toNat
    have b2 := are_get ha (by decide) (by decide) i
    have e2 : decide (IntKind.i64.wrap (-1 * IntKind.i64.wrap (l.getD ((nbr w g x y).getD j 0).toNat 0 - l.getD i 0)) > 0) = lowP w g l x y j := by
      unfold lowP
      rw [wrap64 (n := l.getD ((nbr w g x y).getD j 0).toNat 0 - l.getD i 0) (by omega) (by omega), wrap64 (by omega) (by omega), ho]
      apply decide_eq_decide.2
      omega
    unfold B_flow_2
    simp only [e1, inB_int (show (0 : Int) ≤ (j : Int) by omega) (show (j : Int) < (4 : Nat) by omega), inB_of hi, inc64 hj (show (4 : Nat) < 2 ^ 62 by decide), cond_true, Int.toNat_natCast, Nat.zero_add, inB_int q.1 (show (nbr w g x y).getD j 0 < l.length by omega), wrap64 (show -9223372036854775808 ≤ cnt (lowP w g l x y) j + 1 by omega) (show cnt (lowP w g l x y) j + 1 < 9223372036854775808 by omega), e2]
    rw [show cnt (lowP w g l x y) (j + 1) = bif lowP w g l x y j then cnt (lowP w g l x y) j + 1 else cnt (lowP w g l x y) j from rfl]
    cases lowP w g l x y j <;> rfl) (by
    unfold B_flow_2
    rfl)
theorem p_flow (w g : Int) (l : LI) (n k : Int) (r : ((Int × (Int × (List Int))) × Bool)) (h : flowG ((w, g, l), n, k) = some r) : d_flow w g l n k = some r := by
  obtain ⟨⟨⟨z, hl, ha⟩, hk⟩, rfl⟩ := if_some (show (if okH (w, g, l) ∧ k = -1 then some ((w, g, stepL w g l n), decide (stepL w g l n ≠ l)) else none) = some r from h)
  subst hk
  have z : szOk w g := z
  have hl : (l.length : Int) = w * g := hl
  have ha : areB 0 1000 l = true := ha
  have wg := wg_b z
  have k1 : ownG (w, g, l) = some (w, g, l) := if_pos (by show l.length ≤ 2 ^ 30; omega)
  unfold d_flow
  simp only [sub_all, k1, Option.bind_some]
  have key := iter_for (B := B_flow_1) (fun i => (((n, (-1, (chg (fun i => meltC w g l n ((i : Int) % w) ((i : Int) / w)) i, ((l.length : Int), ((i : Int), ()))))), ((w, (g, (l.length, ()))), (l, ((0, (0, (0, ()))), ((w, (g, (l.length, ()))), ([], (newUp (fun i => meltV w g l n ((i : Int) % w) ((i : Int) / w)) l i, ()))))))))) 0 l.length (((chg (fun i => meltC w g l n ((i : Int) % w) ((i : Int) / w)) l.length, ()), ((w, (g, (l.length, ()))), (l, ((0, (0, (0, ()))), ((w, (g, (l.length, ()))), ([], (stepL w g l n, ())))))))) (Nat.zero_le _) (by omega) (fun i _ hi => by
    have k2 : nearG ((w, g, l), (i : Int)) = some (nbr w g ((i : Int) % w) ((i : Int) / w)) := if_pos ⟨z, by show 0 ≤ (i : Int); omega, by show (i : Int) < 2 ^ 10; omega⟩
    have k3 := flow2 n z hl ha hi (chg (fun i => meltC w g l n ((i : Int) % w) ((i : Int) / w)) i) (newUp (fun i => meltV w g l n ((i : Int) % w) ((i : Int) / w)) l i) (l.length : Int)
    have b2 := are_get ha (by decide) (by decide) i
    have ho := own_i z hl hi
    have n1 := newUp_get (fun i : Nat => meltV w g l n ((i : Int) % w) ((i : Int) / w)) l 0 (Nat.le_refl i)
    have n2 := newUp_succ (fun i : Nat => meltV w g l n ((i : Int) % w) ((i : Int) / w)) l hi
    have n3 := newUp_same (fun i : Nat => meltV w g l n ((i : Int) % w) ((i : Int) / w)) l 0 hi
    unfold B_flow_1
    simp only [ltT hi, cond_true, sub_all, k2, Option.bind_some, show (nbr w g ((i : Int) % w) ((i : Int) / w)).length = 4 from rfl]
    refine (congrArg (fun z => Option.bind z _) (show iter B_flow_2 bigN _ = _ from k3)).trans ?_
    simp only [Option.bind_some, inB_of hi, cond_true, Int.toNat_natCast, Nat.zero_add, inc64 hi (show l.length < 2 ^ 62 by omega), n1]
    simp only [wrap64 (n := l.getD i 0 + -1) (by omega) (by omega)]
    rw [show chg (fun i => meltC w g l n ((i : Int) % w) ((i : Int) / w)) (i + 1) = bif meltC w g l n ((i : Int) % w) ((i : Int) / w) then true else chg (fun i => meltC w g l n ((i : Int) % w) ((i : Int) / w)) i from rfl]
    rw [show decide (cnt (lowP w g l ((i : Int) % w) ((i : Int) / w)) 4 ≥ n) = decide (n ≤ cnt (lowP w g l ((i : Int) % w) ((i : Int) / w)) 4) from rfl]
    by_cases c1 : n ≤ cnt (lowP w g l ((i : Int) % w) ((i : Int) / w)) 4
    · by_cases c2 : 1 ≤ l.getD i 0
      · have hm : meltC w g l n ((i : Int) % w) ((i : Int) / w) = true := by
          unfold meltC
          rw [ho, decide_eq_true c1, decide_eq_true c2]; rfl
        have hv : meltV w g l n ((i : Int) % w) ((i : Int) / w) = l.getD i 0 + -1 := by
          unfold meltV
          rw [hm, cond_true, ho]; omega
        rw [← n2, hv, hm, decide_eq_true c1, decide_eq_true (show l.getD i 0 + -1 ≥ 0 by omega)]
        rfl
      · have hm : meltC w g l n ((i : Int) % w) ((i : Int) / w) = false := by
          unfold meltC
          rw [ho, decide_eq_true c1, decide_eq_false c2]; rfl
        have hv : meltV w g l n ((i : Int) % w) ((i : Int) / w) = l.getD i 0 := by
          unfold meltV
          rw [hm, cond_false, ho]
        rw [← n3 hv, hm, decide_eq_true c1, decide_eq_false (show ¬ l.getD i 0 + -1 ≥ 0 by omega)]
        rfl
    · have hm : meltC w g l n ((i : Int) % w) ((i : Int) / w) = false := by
        unfold meltC
        rw [decide_eq_false c1, Bool.and_false]
      have hv : meltV w g l n ((i : Int) % w) ((i : Int) / w) = l.getD i 0 := by
        unfold meltV
        rw [hm, cond_false, ho]
      rw [← n3 hv, hm, decide_eq_false c1]
      rfl) (by
    unfold B_flow_1
    simp only [ltF, cond_false, newUp_end]
    rfl)
  simp only [newUp_zero] at key
  refine (congrArg (fun z => Option.bind z _) (show iter B_flow_1 bigN _ = _ from key)).trans ?_
  have hs : sub (stepL w g l n) 0 l.length = stepL w g l n := by have := sub_all (stepL w g l n); rw [show (stepL w g l n).length = l.length from mapR_len _ _] at this; exact this
  simp only [Option.bind_some, hs, step_chg n z hl]
theorem s_flow : FTold Try.prog 136 flowS := walkedF (fs := fs) (ss := ss_flow) (loop := loops_flow) tysOk mixed fnsOk ssOk_flow 10 136 [.ptr HD, I64, I64] [HD, .bool] rfl _ fun ((w, g, l), n, k) r h => (t_flow w g l n k).trans (p_flow w g l n k r h)
/-- the steps, some times -/
def stepsL (w g : Int) (l : LI) (n : Int) : Nat → LI
  | 0 => l
  | r + 1 => stepL w g (stepsL w g l n r) n
theorem step_ok {w g : Int} {l : LI} (n : Int) (h : okH (w, g, l)) : okH (w, g, stepL w g l n) := by
  obtain ⟨z, hl, ha⟩ := h
  have hlen : (stepL w g l n).length = l.length := mapR_len _ _
  refine ⟨z, by show ((stepL w g l n).length : Int) = w * g; rw [hlen]; exact hl, ?_⟩
  refine are_yes (p := 0) (q := 1000) fun i hi => ?_
  rw [show (stepL w g l n).getD i 0 = meltV w g l n ((i : Int) % w) ((i : Int) / w) from mapR_get _ _ (by have : i < (stepL w g l n).length := hi; omega)]
  have b := are_get ha (by decide) (by decide) (cellF w g ((i : Int) % w) ((i : Int) / w)).toNat
  have b : 0 ≤ ownF w g l ((i : Int) % w) ((i : Int) / w) ∧ ownF w g l ((i : Int) % w) ((i : Int) / w) ≤ 1000 := b
  unfold meltV
  cases hm : meltC w g l n ((i : Int) % w) ((i : Int) / w) with
  | false => rw [cond_false, decide_eq_true b.1, decide_eq_true b.2]; rfl
  | true =>
    unfold meltC at hm
    rw [Bool.and_eq_true, decide_eq_true_iff] at hm
    rw [cond_true, decide_eq_true (show 0 ≤ ownF w g l ((i : Int) % w) ((i : Int) / w) - 1 by omega), decide_eq_true (show ownF w g l ((i : Int) % w) ((i : Int) / w) - 1 ≤ 1000 by omega)]
    rfl
theorem steps_ok {w g : Int} {l : LI} (n : Int) (h : okH (w, g, l)) : ∀ r, okH (w, g, stepsL w g l n r)
  | 0 => h
  | r + 1 => step_ok n (steps_ok n h r)
theorem steps_len {w g : Int} {l : LI} (n : Int) : ∀ r, (stepsL w g l n r).length = l.length
  | 0 => rfl
  | r + 1 => (mapR_len _ _).trans (steps_len n r)
theorem steps_fix {w g : Int} {l : LI} (n : Int) {r : Nat} (h : stepsL w g l n (r + 1) = stepsL w g l n r) : ∀ k, stepsL w g l n (r + k) = stepsL w g l n r
  | 0 => rfl
  | k + 1 => by
    show stepL w g (stepsL w g l n (r + k)) n = _
    rw [steps_fix n h k]
    exact h
def flowsF (w g : Int) (l : LI) (n m : Int) : HT × Bool := bif decide (okH (w, g, l)) && (decide (1 ≤ n) && decide (n ≤ 4)) && (decide (0 ≤ m) && decide (m ≤ 50)) then ((w, g, stepsL w g l n m.toNat), true) else ((0, 0, []), false)
end Go.Proofs.Ytjggcekliaalgaa
