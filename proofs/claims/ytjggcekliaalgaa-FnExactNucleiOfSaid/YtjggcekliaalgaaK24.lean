/- Nuclei. No condition. -/
import Derived.Test.YtjggcekliaalgaaK22
import Derived.Test.YtjggcekliaalgaaLG
namespace Go.Proofs.Ytjggcekliaalgaa
open Go.Ab
set_option maxRecDepth 100000 in
theorem s_archFloor : FTold Try.prog 190 floorAS := ftold (floorA_ok (fn := Try.f190) Try.func190 rfl rfl rfl rfl)
def flr32G (x : Fl .f32) : Option (Fl .f32) := if fin x = true ∧ 0 ≤ val x ∧ val x ≤ 1000 then (floorAG (fwide x)).bind fun z => fconv .f64 .f32 z else none
def flr32S : FSpec := ⟨[F32], [F32], flr32G⟩
def loops_floor32 (_ _ _ : Nat) : Option LSpec := none
noncomputable def ss_floor32 : List (Nat × FSpec) := [(190, floorAS)]
theorem ssOk_floor32 : FTolds Try.prog ss_floor32 := ⟨s_archFloor, trivial⟩
noncomputable def Γ_floor32 : Ctx := ctxOf Try.prog tys fs ss_floor32 loops_floor32
noncomputable def d_floor32 (x : Fl .f32) : Option ((Fl .f32)) := Option.bind (floorAG (fwide x)) fun (r0 : (Fl .f64)) => (Option.bind (fconv .f64 .f32 r0) fun (r1 : (Fl .f32)) => (some (r1)))
theorem t_floor32 (x : Fl .f32) : (fnT Γ_floor32 10 101 [F32] [F32] x).den = d_floor32 x := by kernel_rfl
theorem p_floor32 (x : Fl .f32) (r : (Fl .f32)) (h : flr32G x = some r) : d_floor32 x = some r := by
  have h : (if fin x = true ∧ 0 ≤ val x ∧ val x ≤ 1000 then (floorAG (fwide x)).bind fun z => fconv .f64 .f32 z else none) = some r := h
  split at h
  · unfold d_floor32
    cases hz : floorAG (fwide x) with
    | none => rw [hz] at h; cases h
    | some z =>
      rw [hz] at h
      have h : fconv .f64 .f32 z = some r := h
      simp only [Option.bind_some, h]
  · cases h
theorem s_floor32 : FTold Try.prog 101 flr32S := walkedF (fs := fs) (ss := ss_floor32) (loop := loops_floor32) tysOk mixed fnsOk ssOk_floor32 10 101 [F32] [F32] rfl _ fun x r h => (t_floor32 x).trans (p_floor32 x r h)
def seedG (x : Int) : Option Bool := some (decide (0 ≤ x) && decide (x ≤ 2147483647))
def seedS : FSpec := ⟨[I64], [.bool], seedG⟩
def loops_isSeed (_ _ _ : Nat) : Option LSpec := none
noncomputable def ss_isSeed : List (Nat × FSpec) := [(84, withinS)]
theorem ssOk_isSeed : FTolds Try.prog ss_isSeed := ⟨s_within, trivial⟩
noncomputable def Γ_isSeed : Ctx := ctxOf Try.prog tys fs ss_isSeed loops_isSeed
noncomputable def d_isSeed (x : Int) : Option (Bool) := Option.bind (withinG (x, 0, 2147483647)) fun (r0 : Bool) => (some (r0))
theorem t_isSeed (x : Int) : (fnT Γ_isSeed 10 85 [I64] [.bool] x).den = d_isSeed x := by kernel_rfl
theorem p_isSeed (x : Int) (r : Bool) (h : seedG x = some r) : d_isSeed x = some r := by
  exact h
theorem s_isSeed : FTold Try.prog 85 seedS := walkedF (fs := fs) (ss := ss_isSeed) (loop := loops_isSeed) tysOk mixed fnsOk ssOk_isSeed 10 85 [I64] [.bool] rfl _ fun x r h => (t_isSeed x).trans (p_isSeed x r h)
def loops_l05Seed (_ _ _ : Nat) : Option LSpec := none
noncomputable def ss_l05Seed : List (Nat × FSpec) := [(77, withinS)]
theorem ssOk_l05Seed : FTolds Try.prog ss_l05Seed := ⟨s_l00In, trivial⟩
noncomputable def Γ_l05Seed : Ctx := ctxOf Try.prog tys fs ss_l05Seed loops_l05Seed
noncomputable def d_l05Seed (x : Int) : Option (Bool) := Option.bind (withinG (x, 0, 2147483647)) fun (r0 : Bool) => (some (r0))
theorem t_l05Seed (x : Int) : (fnT Γ_l05Seed 10 78 [I64] [.bool] x).den = d_l05Seed x := by kernel_rfl
theorem p_l05Seed (x : Int) (r : Bool) (h : seedG x = some r) : d_l05Seed x = some r := by
  exact h
theorem s_l05Seed : FTold Try.prog 78 seedS := walkedF (fs := fs) (ss := ss_l05Seed) (loop := loops_l05Seed) tysOk mixed fnsOk ssOk_l05Seed 10 78 [I64] [.bool] rfl _ fun x r h => (t_l05Seed x).trans (p_l05Seed x r h)
def nextF (s : Int) : Int := (1103515245 * s + 12345) % 2147483648
def sdOk (s : Int) : Prop := 0 ≤ s ∧ s ≤ 2147483647
instance (s : Int) : Decidable (sdOk s) := by unfold sdOk; exact inferInstance
theorem next_ok (s : Int) : sdOk (nextF s) := by unfold sdOk nextF; omega
theorem next_tree {s : Int} (h : sdOk s) : (IntKind.i64.wrap (IntKind.i64.wrap (1103515245 * s) + 12345)).tmod 2147483648 = nextF s ∧ IntKind.i64.wrap ((nextF s).tdiv 65536) = nextF s / 65536 ∧ 0 ≤ nextF s / 65536 := by
  obtain ⟨h1, h2⟩ := h
  have n := next_ok s
  unfold sdOk at n
  refine ⟨?_, ?_, by omega⟩
  · rw [wrap64 (n := 1103515245 * s) (by omega) (by omega), wrap64 (by omega) (by omega), Int.tmod_eq_emod_of_nonneg (by omega)]
    rfl
  · rw [Int.tdiv_eq_ediv_of_nonneg n.1, wrap64 (by omega) (by omega)]
def draw1G (x : Int) : Option (Int × Int) := if sdOk x then some (nextF x, nextF x / 65536) else none
def draw1S : FSpec := ⟨[I64], [I64, I64], draw1G⟩
def loops_draw (_ _ _ : Nat) : Option LSpec := none
noncomputable def ss_draw : List (Nat × FSpec) := []
theorem ssOk_draw : FTolds Try.prog ss_draw := trivial
noncomputable def Γ_draw : Ctx := ctxOf Try.prog tys fs ss_draw loops_draw
noncomputable def d_draw (x : Int) : Option ((Int × Int)) := some (((IntKind.i64.wrap (IntKind.i64.wrap (1103515245 * x) + 12345)).tmod 2147483648, IntKind.i64.wrap (((IntKind.i64.wrap (IntKind.i64.wrap (1103515245 * x) + 12345)).tmod 2147483648).tdiv 65536)))
theorem t_draw (x : Int) : (fnT Γ_draw 10 148 [I64] [I64, I64] x).den = d_draw x := by kernel_rfl
theorem p_draw (x : Int) (r : (Int × Int)) (h : draw1G x = some r) : d_draw x = some r := by
  obtain ⟨hs, rfl⟩ := if_some (show (if sdOk x then some (nextF x, nextF x / 65536) else none) = some r from h)
  obtain ⟨t1, t2, t3⟩ := next_tree hs
  unfold d_draw
  rw [t1, t2]
theorem s_draw : FTold Try.prog 148 draw1S := walkedF (fs := fs) (ss := ss_draw) (loop := loops_draw) tysOk mixed fnsOk ssOk_draw 10 148 [I64] [I64, I64] rfl _ fun x r h => (t_draw x).trans (p_draw x r h)
def draw2G (x : Int × Int) : Option (Int × Int) := if sdOk x.1 ∧ 1 ≤ x.2 then some (nextF x.1 / 65536 % x.2, nextF x.1) else none
def draw2S : FSpec := ⟨[I64, I64], [I64, I64], draw2G⟩
def loops_l05Draw (_ _ _ : Nat) : Option LSpec := none
noncomputable def ss_l05Draw : List (Nat × FSpec) := []
theorem ssOk_l05Draw : FTolds Try.prog ss_l05Draw := trivial
noncomputable def Γ_l05Draw : Ctx := ctxOf Try.prog tys fs ss_l05Draw loops_l05Draw
noncomputable def d_l05Draw (x n : Int) : Option ((Int × Int)) := bif n != 0 then (some (((IntKind.i64.wrap (((IntKind.i64.wrap (IntKind.i64.wrap (1103515245 * x) + 12345)).tmod 2147483648).tdiv 65536)).tmod n, (IntKind.i64.wrap (IntKind.i64.wrap (1103515245 * x) + 12345)).tmod 2147483648))) else (none)
theorem t_l05Draw (x n : Int) : (fnT Γ_l05Draw 10 80 [I64, I64] [I64, I64] (x, n)).den = d_l05Draw x n := by kernel_rfl
theorem p_l05Draw (x n : Int) (r : (Int × Int)) (h : draw2G (x, n) = some r) : d_l05Draw x n = some r := by
  obtain ⟨⟨hs, h1⟩, rfl⟩ := if_some (show (if sdOk x ∧ 1 ≤ n then some (nextF x / 65536 % n, nextF x) else none) = some r from h)
  obtain ⟨t1, t2, t3⟩ := next_tree hs
  have z : (n != 0) = true := by simp; omega
  unfold d_l05Draw
  rw [t1, t2, z, cond_true, Int.tmod_eq_emod_of_nonneg t3]
theorem s_l05Draw : FTold Try.prog 80 draw2S := walkedF (fs := fs) (ss := ss_l05Draw) (loop := loops_l05Draw) tysOk mixed fnsOk ssOk_l05Draw 10 80 [I64, I64] [I64, I64] rfl _ fun (x, n) r h => (t_l05Draw x n).trans (p_l05Draw x n r h)
def sdN (s : Int) : Nat → Int
  | 0 => s
  | i + 1 => nextF (sdN s i)
theorem sdN_ok {s : Int} (h : sdOk s) : ∀ i, sdOk (sdN s i)
  | 0 => h
  | _ + 1 => next_ok _
def eF (x : LT) (q : Fl .f32) (T V : LS) (i : Nat) : Fl .f32 := fmul (fmul q (speedF x (meanF V i))) (fsub (T.getD i dN) (T.getD (i - 1) dN))
def uF (s : Int) : Fl .f32 := fdiv (fofInt .f32 (nextF s / 65536 % 32768)) (Fl.of .f32 1191182336)
def nucV (e : Fl .f32) (s : Int) : Int := (ftoInt e .i64).getD 0 + bif Go.Ab.flt (uF s) (fsub e (fofInt .f32 ((ftoInt e .i64).getD 0))) then 1 else 0
def nucL (x : LT) (q : Fl .f32) (T V : LS) (s : Int) (i : Nat) : LI := mapR (fun j => nucV (eF x q T V (j + 1)) (sdN s j)) i
theorem val1000 : fin (Fl.of .f32 1148846080) = true ∧ val (Fl.of .f32 1148846080) = 1000 := by decide +kernel
theorem e_ok {x : LT} {q : Fl .f32} {T V : LS} {i : Nat} (h1 : okL x = true) (h2 : least q = true) (h3 : fin (meanF V i) = true) (h4 : least (fsub (T.getD i dN) (T.getD (i - 1) dN)) = true) (h5 : fle (eF x q T V i) (Fl.of .f32 1148846080) = true) :
    fin (eF x q T V i) = true ∧ 0 ≤ val (eF x q T V i) ∧ val (eF x q T V i) ≤ 1000 := by
  have s1 := speed_fin h1 h3
  have s2 := speed_nn h1 (meanF V i) s1
  obtain ⟨q1, q2⟩ := least_val h2
  obtain ⟨t1, t2⟩ := least_val h4
  have pn : PN (eF x q T V i) ∨ fin (eF x q T V i) = false ∧ fle (eF x q T V i) (Fl.of .f32 1148846080) = false := by
    unfold eF
    rcases mul_form q1 s1 q2 s2 with ⟨a1, a2⟩ | a
    · exact .inl (mul_form a1 t1 a2 t2)
    · rw [a]
      by_cases z : val (fsub (T.getD i dN) (T.getD (i - 1) dN)) = 0
      · rcases zero_two t1 z with w | w <;> rw [w] <;> exact .inr (by decide +kernel)
      · rw [mul_inf t1 (by grind)]
        exact .inl (.inr rfl)
  rcases pn with (⟨f1, f2⟩ | f) | ⟨_, f⟩
  · rw [fle_val f1 val1000.1, val1000.2] at h5
    exact ⟨f1, f2, of_decide_eq_true h5⟩
  · rw [f] at h5
    exact absurd h5 (by decide +kernel)
  · rw [f] at h5; cases h5
theorem rd {e : Fl .f32} (h : fin e = true ∧ 0 ≤ val e ∧ val e ≤ 1000) : ∃ (N : Nat) (y : Fl .f32), N ≤ 1000 ∧ ftoInt e .i64 = some (N : Int) ∧ flr32G e = some y ∧ ftoInt y .i64 = some (N : Int) ∧ ∀ u, Go.Ab.flt u (fsub e y) = Go.Ab.flt u (fsub e (fofInt .f32 (N : Int))) := by
  obtain ⟨N, z, y, a1, a2, a3, a4, a5, a6, a7, a8⟩ := floor_conv h.1 h.2.1 h.2.2
  refine ⟨N, y, a1, a7, ?_, a8, fun u => rest_same h.1 a1 a5 a6 u⟩
  unfold flr32G
  rw [if_pos h, a3]
  exact a4
end Go.Proofs.Ytjggcekliaalgaa
