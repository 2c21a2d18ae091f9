/- The program's ValidDesk answers as the reference's does, at all arguments: the law. No condition. -/
import Derived.Test.YtffbjjngapejbaaD6
namespace Go.Proofs.Ytffbjjngapejbaa
open Go.Ab
def vdP (x : DeskT) : Prop := vmP (x.1, x.2.1, x.2.2.1, x.2.2.2.1, x.2.2.2.2.1, x.2.2.2.2.2.1, x.2.2.2.2.2.2.1, x.2.2.2.2.2.2.2.1, x.2.2.2.2.2.2.2.2.1, x.2.2.2.2.2.2.2.2.2.1, x.2.2.2.2.2.2.2.2.2.2.1, x.2.2.2.2.2.2.2.2.2.2.2.1, x.2.2.2.2.2.2.2.2.2.2.2.2.1, x.2.2.2.2.2.2.2.2.2.2.2.2.2.1) ∧ vgP (x.2.2.2.2.2.2.2.2.2.2.2.2.2.2.1, x.2.2.2.2.2.2.2.2.2.2.2.2.2.2.2.1, l3 x) ∧ vkP (x.2.2.2.2.2.2.2.2.2.2.2.2.2.2.2.2.2.1, l4 x) ∧ (0 ≤ x.2.2.2.2.2.2.2.2.2.2.2.2.2.2.2.2.2.2.2 ∧ x.2.2.2.2.2.2.2.2.2.2.2.2.2.2.2.2.2.2.2 ≤ 2147483647)
open Classical in
noncomputable def vdG (x : DeskT) : Option Bool := if lensB x (2 ^ 40) then some (decide (vdP x)) else none
noncomputable def vdS : FSpec := ⟨[DeskD], [.bool], vdG⟩
noncomputable def vdPG (x : DeskT) : Option Bool := vdG x
noncomputable def vdPS : FSpec := ⟨[.ptr DeskD], [.bool], vdPG⟩
open Classical in
theorem vd_some {x : DeskT} {r : Bool} (h : vdG x = some r) : lensB x (2 ^ 40) ∧ (r = true ↔ vdP x) := by
  obtain ⟨h1, rfl⟩ := if_some (show (if lensB x (2 ^ 40) then some (decide (vdP x)) else none) = some r from h)
  exact ⟨h1, decide_eq_true_iff⟩
open Classical in
theorem vd_ex {x : DeskT} (h : lensB x (2 ^ 40)) : ∃ b, vdG x = some b := ⟨_, if_pos h⟩
def loops_VDI (_ _ _ : Nat) : Option LSpec := none
noncomputable def ss_VDI : List (Nat × FSpec) := [(56, vmS), (57, vgS), (58, vkS), (59, seedS)]
theorem ssOk_VDI : FTolds Try.prog ss_VDI := ⟨s_VMI, s_VGI, s_VKI, s_isSeed, trivial⟩
noncomputable def Γ_VDI : Ctx := ctxOf Try.prog tys fs ss_VDI loops_VDI
noncomputable def d_VDI (w1 : Int) (h1 : Int) (o1 : Bool) (v1 : LS) (w2 : Int) (h2 : Int) (o2 : Bool) (v2 : LS) (a1 : Fl .f32) (a2 : Fl .f32) (a3 : Fl .f32) (a4 : Fl .f32) (a5 : Fl .f32) (fo : Int) (gw : Int) (gh : Int) (gl : LI) (sd : Int) (sv : LS) (se : Int) : Option (Bool) := Option.bind (vmG (w1, h1, o1, sub v1 0 (List.length v1), w2, h2, o2, sub v2 0 (List.length v2), a1, a2, a3, a4, a5, fo)) fun (r0 : Bool) => (bif r0 then (Option.bind (vgG (gw, gh, sub gl 0 (List.length gl))) fun (r1 : Bool) => (bif r1 then (Option.bind (vkG (sd, sub sv 0 (List.length sv))) fun (r2 : Bool) => (bif r2 then (Option.bind (seedG se) fun (r3 : Bool) => (some (r3))) else (some (false)))) else (some (false)))) else (some (false)))
theorem t_VDI (w1 : Int) (h1 : Int) (o1 : Bool) (v1 : LS) (w2 : Int) (h2 : Int) (o2 : Bool) (v2 : LS) (a1 : Fl .f32) (a2 : Fl .f32) (a3 : Fl .f32) (a4 : Fl .f32) (a5 : Fl .f32) (fo : Int) (gw : Int) (gh : Int) (gl : LI) (sd : Int) (sv : LS) (se : Int) : (fnT Γ_VDI 10 15 [DeskD] [.bool] (w1, h1, o1, v1, w2, h2, o2, v2, a1, a2, a3, a4, a5, fo, gw, gh, gl, sd, sv, se)).den = d_VDI w1 h1 o1 v1 w2 h2 o2 v2 a1 a2 a3 a4 a5 fo gw gh gl sd sv se := by kernel_rfl
theorem p_VDI (w1 : Int) (h1 : Int) (o1 : Bool) (v1 : LS) (w2 : Int) (h2 : Int) (o2 : Bool) (v2 : LS) (a1 : Fl .f32) (a2 : Fl .f32) (a3 : Fl .f32) (a4 : Fl .f32) (a5 : Fl .f32) (fo : Int) (gw : Int) (gh : Int) (gl : LI) (sd : Int) (sv : LS) (se : Int) (r : Bool) (h : vdG (w1, h1, o1, v1, w2, h2, o2, v2, a1, a2, a3, a4, a5, fo, gw, gh, gl, sd, sv, se) = some r) : d_VDI w1 h1 o1 v1 w2 h2 o2 v2 a1 a2 a3 a4 a5 fo gw gh gl sd sv se = some r := by
  obtain ⟨⟨p1, p2, p3, p4⟩, hr⟩ := vd_some (x := (w1, h1, o1, v1, w2, h2, o2, v2, a1, a2, a3, a4, a5, fo, gw, gh, gl, sd, sv, se)) h
  have q1 : v1.length ≤ 2 ^ 40 := p1
  have q2 : v2.length ≤ 2 ^ 40 := p2
  have q3 : gl.length ≤ 2 ^ 40 := p3
  have q4 : sv.length ≤ 2 ^ 40 := p4
  obtain ⟨c1, k1, i1⟩ := vm_ex (x := (w1, h1, o1, v1, w2, h2, o2, v2, a1, a2, a3, a4, a5, fo)) ⟨show v1.length < 2 ^ 62 by omega, show v2.length < 2 ^ 62 by omega⟩
  obtain ⟨c2, k2, i2⟩ := vg_ex (x := (gw, gh, gl)) (show gl.length < 2 ^ 62 by omega)
  obtain ⟨c3, k3, i3⟩ := vk_ex (x := (sd, sv)) (show sv.length < 2 ^ 62 by omega)
  have k1' : vmG (w1, h1, o1, v1, w2, h2, o2, v2, a1, a2, a3, a4, a5, fo) = some c1 := k1
  have k2' : vgG (gw, gh, gl) = some c2 := k2
  have k3' : vkG (sd, sv) = some c3 := k3
  unfold d_VDI seedG
  simp only [sub_all, k1', k2', k3', Option.bind_some]
  exact tree_iff (bif_iff i1 (bif_iff i2 (bif_iff i3 (end_iff and2)))) hr Iff.rfl
theorem s_VDI : FTold Try.prog 15 vdS := walkedF (fs := fs) (ss := ss_VDI) (loop := loops_VDI) tysOk mixed fnsOk ssOk_VDI 10 15 [DeskD] [.bool] rfl _ fun (w1, h1, o1, v1, w2, h2, o2, v2, a1, a2, a3, a4, a5, fo, gw, gh, gl, sd, sv, se) r h => (t_VDI w1 h1 o1 v1 w2 h2 o2 v2 a1 a2 a3 a4 a5 fo gw gh gl sd sv se).trans (p_VDI w1 h1 o1 v1 w2 h2 o2 v2 a1 a2 a3 a4 a5 fo gw gh gl sd sv se r h)
def loops_VDP (_ _ _ : Nat) : Option LSpec := none
noncomputable def ss_VDP : List (Nat × FSpec) := [(119, vmPS), (120, vgPS), (80, vkPS), (121, seedS)]
theorem ssOk_VDP : FTolds Try.prog ss_VDP := ⟨s_VMS, s_VGS, s_VKS, s_l02Seed, trivial⟩
noncomputable def Γ_VDP : Ctx := ctxOf Try.prog tys fs ss_VDP loops_VDP
noncomputable def d_VDP (w1 : Int) (h1 : Int) (o1 : Bool) (v1 : LS) (w2 : Int) (h2 : Int) (o2 : Bool) (v2 : LS) (a1 : Fl .f32) (a2 : Fl .f32) (a3 : Fl .f32) (a4 : Fl .f32) (a5 : Fl .f32) (fo : Int) (gw : Int) (gh : Int) (gl : LI) (sd : Int) (sv : LS) (se : Int) : Option (Bool) := Option.bind (vmPG (w1, h1, o1, sub v1 0 (List.length v1), w2, h2, o2, sub v2 0 (List.length v2), a1, a2, a3, a4, a5, fo)) fun (r0 : Bool) => (bif r0 then (Option.bind (vgPG (gw, gh, sub gl 0 (List.length gl))) fun (r1 : Bool) => (bif r1 then (Option.bind (vkPG (sd, sub sv 0 (List.length sv))) fun (r2 : Bool) => (bif r2 then (Option.bind (seedG se) fun (r3 : Bool) => (some (r3))) else (some (false)))) else (some (false)))) else (some (false)))
theorem t_VDP (w1 : Int) (h1 : Int) (o1 : Bool) (v1 : LS) (w2 : Int) (h2 : Int) (o2 : Bool) (v2 : LS) (a1 : Fl .f32) (a2 : Fl .f32) (a3 : Fl .f32) (a4 : Fl .f32) (a5 : Fl .f32) (fo : Int) (gw : Int) (gh : Int) (gl : LI) (sd : Int) (sv : LS) (se : Int) : (fnT Γ_VDP 10 55 [.ptr DeskD] [.bool] (w1, h1, o1, v1, w2, h2, o2, v2, a1, a2, a3, a4, a5, fo, gw, gh, gl, sd, sv, se)).den = d_VDP w1 h1 o1 v1 w2 h2 o2 v2 a1 a2 a3 a4 a5 fo gw gh gl sd sv se := by kernel_rfl
theorem p_VDP (w1 : Int) (h1 : Int) (o1 : Bool) (v1 : LS) (w2 : Int) (h2 : Int) (o2 : Bool) (v2 : LS) (a1 : Fl .f32) (a2 : Fl .f32) (a3 : Fl .f32) (a4 : Fl .f32) (a5 : Fl .f32) (fo : Int) (gw : Int) (gh : Int) (gl : LI) (sd : Int) (sv : LS) (se : Int) (r : Bool) (h : vdPG (w1, h1, o1, v1, w2, h2, o2, v2, a1, a2, a3, a4, a5, fo, gw, gh, gl, sd, sv, se) = some r) : d_VDP w1 h1 o1 v1 w2 h2 o2 v2 a1 a2 a3 a4 a5 fo gw gh gl sd sv se = some r := by
  obtain ⟨⟨p1, p2, p3, p4⟩, hr⟩ := vd_some (x := (w1, h1, o1, v1, w2, h2, o2, v2, a1, a2, a3, a4, a5, fo, gw, gh, gl, sd, sv, se)) h
  have q1 : v1.length ≤ 2 ^ 40 := p1
  have q2 : v2.length ≤ 2 ^ 40 := p2
  have q3 : gl.length ≤ 2 ^ 40 := p3
  have q4 : sv.length ≤ 2 ^ 40 := p4
  obtain ⟨c1, k1, i1⟩ := vm_ex (x := (w1, h1, o1, v1, w2, h2, o2, v2, a1, a2, a3, a4, a5, fo)) ⟨show v1.length < 2 ^ 62 by omega, show v2.length < 2 ^ 62 by omega⟩
  obtain ⟨c2, k2, i2⟩ := vg_ex (x := (gw, gh, gl)) (show gl.length < 2 ^ 62 by omega)
  obtain ⟨c3, k3, i3⟩ := vk_ex (x := (sd, sv)) (show sv.length < 2 ^ 62 by omega)
  have k1' : vmPG (w1, h1, o1, v1, w2, h2, o2, v2, a1, a2, a3, a4, a5, fo) = some c1 := k1
  have k2' : vgPG (gw, gh, gl) = some c2 := k2
  have k3' : vkPG (sd, sv) = some c3 := k3
  unfold d_VDP seedG
  simp only [sub_all, k1', k2', k3', Option.bind_some]
  exact tree_iff (bif_iff i1 (bif_iff i2 (bif_iff i3 (end_iff and2)))) hr Iff.rfl
theorem s_VDP : FTold Try.prog 55 vdPS := walkedF (fs := fs) (ss := ss_VDP) (loop := loops_VDP) tysOk mixed fnsOk ssOk_VDP 10 55 [.ptr DeskD] [.bool] rfl _ fun (w1, h1, o1, v1, w2, h2, o2, v2, a1, a2, a3, a4, a5, fo, gw, gh, gl, sd, sv, se) r h => (t_VDP w1 h1 o1 v1 w2 h2 o2 v2 a1 a2 a3 a4 a5 fo gw gh gl sd sv se).trans (p_VDP w1 h1 o1 v1 w2 h2 o2 v2 a1 a2 a3 a4 a5 fo gw gh gl sd sv se r h)
def loops_VDS (_ _ _ : Nat) : Option LSpec := none
noncomputable def ss_VDS : List (Nat × FSpec) := [(55, vdPS)]
theorem ssOk_VDS : FTolds Try.prog ss_VDS := ⟨s_VDP, trivial⟩
noncomputable def Γ_VDS : Ctx := ctxOf Try.prog tys fs ss_VDS loops_VDS
noncomputable def d_VDS (w1 : Int) (h1 : Int) (o1 : Bool) (v1 : LS) (w2 : Int) (h2 : Int) (o2 : Bool) (v2 : LS) (a1 : Fl .f32) (a2 : Fl .f32) (a3 : Fl .f32) (a4 : Fl .f32) (a5 : Fl .f32) (fo : Int) (gw : Int) (gh : Int) (gl : LI) (sd : Int) (sv : LS) (se : Int) : Option (Bool) := Option.bind (vdPG (w1, h1, o1, sub v1 0 (List.length v1), w2, h2, o2, sub v2 0 (List.length v2), a1, a2, a3, a4, a5, fo, gw, gh, sub gl 0 (List.length gl), sd, sub sv 0 (List.length sv), se)) fun (r0 : Bool) => (some (r0))
theorem t_VDS (w1 : Int) (h1 : Int) (o1 : Bool) (v1 : LS) (w2 : Int) (h2 : Int) (o2 : Bool) (v2 : LS) (a1 : Fl .f32) (a2 : Fl .f32) (a3 : Fl .f32) (a4 : Fl .f32) (a5 : Fl .f32) (fo : Int) (gw : Int) (gh : Int) (gl : LI) (sd : Int) (sv : LS) (se : Int) : (fnT Γ_VDS 10 14 [DeskD] [.bool] (w1, h1, o1, v1, w2, h2, o2, v2, a1, a2, a3, a4, a5, fo, gw, gh, gl, sd, sv, se)).den = d_VDS w1 h1 o1 v1 w2 h2 o2 v2 a1 a2 a3 a4 a5 fo gw gh gl sd sv se := by kernel_rfl
theorem p_VDS (w1 : Int) (h1 : Int) (o1 : Bool) (v1 : LS) (w2 : Int) (h2 : Int) (o2 : Bool) (v2 : LS) (a1 : Fl .f32) (a2 : Fl .f32) (a3 : Fl .f32) (a4 : Fl .f32) (a5 : Fl .f32) (fo : Int) (gw : Int) (gh : Int) (gl : LI) (sd : Int) (sv : LS) (se : Int) (r : Bool) (h : vdG (w1, h1, o1, v1, w2, h2, o2, v2, a1, a2, a3, a4, a5, fo, gw, gh, gl, sd, sv, se) = some r) : d_VDS w1 h1 o1 v1 w2 h2 o2 v2 a1 a2 a3 a4 a5 fo gw gh gl sd sv se = some r := by
  have h' : vdPG (w1, h1, o1, v1, w2, h2, o2, v2, a1, a2, a3, a4, a5, fo, gw, gh, gl, sd, sv, se) = some r := h
  unfold d_VDS
  simp only [sub_all, h', Option.bind_some]
theorem s_VDS : FTold Try.prog 14 vdS := walkedF (fs := fs) (ss := ss_VDS) (loop := loops_VDS) tysOk mixed fnsOk ssOk_VDS 10 14 [DeskD] [.bool] rfl _ fun (w1, h1, o1, v1, w2, h2, o2, v2, a1, a2, a3, a4, a5, fo, gw, gh, gl, sd, sv, se) r h => (t_VDS w1 h1 o1 v1 w2 h2 o2 v2 a1 a2 a3 a4 a5 fo gw gh gl sd sv se).trans (p_VDS w1 h1 o1 v1 w2 h2 o2 v2 a1 a2 a3 a4 a5 fo gw gh gl sd sv se r h)
def yesVG (x : DeskT) : Option Bool := if lensB x maxLen then some true else none
def yesVS : FSpec := ⟨[DeskD], [.bool], yesVG⟩
def loops_lawVal (_ _ _ : Nat) : Option LSpec := none
noncomputable def ss_lawVal : List (Nat × FSpec) := [(9, szDS), (11, copyDS), (14, vdS), (15, vdS), (13, selfDS)]
theorem ssOk_lawVal : FTolds Try.prog ss_lawVal := ⟨s_szD, s_toD, s_VDS, s_VDI, s_eqD, trivial⟩
noncomputable def Γ_lawVal : Ctx := ctxOf Try.prog tys fs ss_lawVal loops_lawVal
noncomputable def d_lawVal (w1 : Int) (h1 : Int) (o1 : Bool) (v1 : LS) (w2 : Int) (h2 : Int) (o2 : Bool) (v2 : LS) (a1 : Fl .f32) (a2 : Fl .f32) (a3 : Fl .f32) (a4 : Fl .f32) (a5 : Fl .f32) (fo : Int) (gw : Int) (gh : Int) (gl : LI) (sd : Int) (sv : LS) (se : Int) : Option (Bool) := Option.bind (szDG ((w1, h1, o1, sub v1 0 (List.length v1), w2, h2, o2, sub v2 0 (List.length v2), a1, a2, a3, a4, a5, fo, gw, gh, sub gl 0 (List.length gl), sd, sub sv 0 (List.length sv), se), 1048576)) fun (r0 : Int) => (bif decide (r0 < 0) then (some (true)) else (Option.bind (copyDG (w1, h1, o1, sub v1 0 (List.length v1), w2, h2, o2, sub v2 0 (List.length v2), a1, a2, a3, a4, a5, fo, gw, gh, sub gl 0 (List.length gl), sd, sub sv 0 (List.length sv), se)) fun (r1 : (Int × (Int × (Bool × ((List (Fl .f32)) × (Int × (Int × (Bool × ((List (Fl .f32)) × ((Fl .f32) × ((Fl .f32) × ((Fl .f32) × ((Fl .f32) × ((Fl .f32) × (Int × (Int × (Int × ((List Int) × (Int × ((List (Fl .f32)) × Int)))))))))))))))))))) => (Option.bind (vdG (r1.1, r1.2.1, r1.2.2.1, sub r1.2.2.2.1 0 (List.length r1.2.2.2.1), r1.2.2.2.2.1, r1.2.2.2.2.2.1, r1.2.2.2.2.2.2.1, sub r1.2.2.2.2.2.2.2.1 0 (List.length r1.2.2.2.2.2.2.2.1), r1.2.2.2.2.2.2.2.2.1, r1.2.2.2.2.2.2.2.2.2.1, r1.2.2.2.2.2.2.2.2.2.2.1, r1.2.2.2.2.2.2.2.2.2.2.2.1, r1.2.2.2.2.2.2.2.2.2.2.2.2.1, r1.2.2.2.2.2.2.2.2.2.2.2.2.2.1, r1.2.2.2.2.2.2.2.2.2.2.2.2.2.2.1, r1.2.2.2.2.2.2.2.2.2.2.2.2.2.2.2.1, sub r1.2.2.2.2.2.2.2.2.2.2.2.2.2.2.2.2.1 0 (List.length r1.2.2.2.2.2.2.2.2.2.2.2.2.2.2.2.2.1), r1.2.2.2.2.2.2.2.2.2.2.2.2.2.2.2.2.2.1, sub r1.2.2.2.2.2.2.2.2.2.2.2.2.2.2.2.2.2.2.1 0 (List.length r1.2.2.2.2.2.2.2.2.2.2.2.2.2.2.2.2.2.2.1), r1.2.2.2.2.2.2.2.2.2.2.2.2.2.2.2.2.2.2.2)) fun (r2 : Bool) => (Option.bind (copyDG (w1, h1, o1, sub v1 0 (List.length v1), w2, h2, o2, sub v2 0 (List.length v2), a1, a2, a3, a4, a5, fo, gw, gh, sub gl 0 (List.length gl), sd, sub sv 0 (List.length sv), se)) fun (r3 : (Int × (Int × (Bool × ((List (Fl .f32)) × (Int × (Int × (Bool × ((List (Fl .f32)) × ((Fl .f32) × ((Fl .f32) × ((Fl .f32) × ((Fl .f32) × ((Fl .f32) × (Int × (Int × (Int × ((List Int) × (Int × ((List (Fl .f32)) × Int)))))))))))))))))))) => (Option.bind (vdG (r3.1, r3.2.1, r3.2.2.1, sub r3.2.2.2.1 0 (List.length r3.2.2.2.1), r3.2.2.2.2.1, r3.2.2.2.2.2.1, r3.2.2.2.2.2.2.1, sub r3.2.2.2.2.2.2.2.1 0 (List.length r3.2.2.2.2.2.2.2.1), r3.2.2.2.2.2.2.2.2.1, r3.2.2.2.2.2.2.2.2.2.1, r3.2.2.2.2.2.2.2.2.2.2.1, r3.2.2.2.2.2.2.2.2.2.2.2.1, r3.2.2.2.2.2.2.2.2.2.2.2.2.1, r3.2.2.2.2.2.2.2.2.2.2.2.2.2.1, r3.2.2.2.2.2.2.2.2.2.2.2.2.2.2.1, r3.2.2.2.2.2.2.2.2.2.2.2.2.2.2.2.1, sub r3.2.2.2.2.2.2.2.2.2.2.2.2.2.2.2.2.1 0 (List.length r3.2.2.2.2.2.2.2.2.2.2.2.2.2.2.2.2.1), r3.2.2.2.2.2.2.2.2.2.2.2.2.2.2.2.2.2.1, sub r3.2.2.2.2.2.2.2.2.2.2.2.2.2.2.2.2.2.2.1 0 (List.length r3.2.2.2.2.2.2.2.2.2.2.2.2.2.2.2.2.2.2.1), r3.2.2.2.2.2.2.2.2.2.2.2.2.2.2.2.2.2.2.2)) fun (r4 : Bool) => (bif !r4 == r2 then (some (false)) else (Option.bind (copyDG (w1, h1, o1, sub v1 0 (List.length v1), w2, h2, o2, sub v2 0 (List.length v2), a1, a2, a3, a4, a5, fo, gw, gh, sub gl 0 (List.length gl), sd, sub sv 0 (List.length sv), se)) fun (r5 : (Int × (Int × (Bool × ((List (Fl .f32)) × (Int × (Int × (Bool × ((List (Fl .f32)) × ((Fl .f32) × ((Fl .f32) × ((Fl .f32) × ((Fl .f32) × ((Fl .f32) × (Int × (Int × (Int × ((List Int) × (Int × ((List (Fl .f32)) × Int)))))))))))))))))))) => (Option.bind (selfDG ((r3.1, r3.2.1, r3.2.2.1, sub r3.2.2.2.1 0 (List.length r3.2.2.2.1), r3.2.2.2.2.1, r3.2.2.2.2.2.1, r3.2.2.2.2.2.2.1, sub r3.2.2.2.2.2.2.2.1 0 (List.length r3.2.2.2.2.2.2.2.1), r3.2.2.2.2.2.2.2.2.1, r3.2.2.2.2.2.2.2.2.2.1, r3.2.2.2.2.2.2.2.2.2.2.1, r3.2.2.2.2.2.2.2.2.2.2.2.1, r3.2.2.2.2.2.2.2.2.2.2.2.2.1, r3.2.2.2.2.2.2.2.2.2.2.2.2.2.1, r3.2.2.2.2.2.2.2.2.2.2.2.2.2.2.1, r3.2.2.2.2.2.2.2.2.2.2.2.2.2.2.2.1, sub r3.2.2.2.2.2.2.2.2.2.2.2.2.2.2.2.2.1 0 (List.length r3.2.2.2.2.2.2.2.2.2.2.2.2.2.2.2.2.1), r3.2.2.2.2.2.2.2.2.2.2.2.2.2.2.2.2.2.1, sub r3.2.2.2.2.2.2.2.2.2.2.2.2.2.2.2.2.2.2.1 0 (List.length r3.2.2.2.2.2.2.2.2.2.2.2.2.2.2.2.2.2.2.1), r3.2.2.2.2.2.2.2.2.2.2.2.2.2.2.2.2.2.2.2), r5.1, r5.2.1, r5.2.2.1, sub r5.2.2.2.1 0 (List.length r5.2.2.2.1), r5.2.2.2.2.1, r5.2.2.2.2.2.1, r5.2.2.2.2.2.2.1, sub r5.2.2.2.2.2.2.2.1 0 (List.length r5.2.2.2.2.2.2.2.1), r5.2.2.2.2.2.2.2.2.1, r5.2.2.2.2.2.2.2.2.2.1, r5.2.2.2.2.2.2.2.2.2.2.1, r5.2.2.2.2.2.2.2.2.2.2.2.1, r5.2.2.2.2.2.2.2.2.2.2.2.2.1, r5.2.2.2.2.2.2.2.2.2.2.2.2.2.1, r5.2.2.2.2.2.2.2.2.2.2.2.2.2.2.1, r5.2.2.2.2.2.2.2.2.2.2.2.2.2.2.2.1, sub r5.2.2.2.2.2.2.2.2.2.2.2.2.2.2.2.2.1 0 (List.length r5.2.2.2.2.2.2.2.2.2.2.2.2.2.2.2.2.1), r5.2.2.2.2.2.2.2.2.2.2.2.2.2.2.2.2.2.1, sub r5.2.2.2.2.2.2.2.2.2.2.2.2.2.2.2.2.2.2.1 0 (List.length r5.2.2.2.2.2.2.2.2.2.2.2.2.2.2.2.2.2.2.1), r5.2.2.2.2.2.2.2.2.2.2.2.2.2.2.2.2.2.2.2)) fun (r6 : Bool) => (bif !r6 then (some (false)) else (some (true)))))))))))
theorem t_lawVal (w1 : Int) (h1 : Int) (o1 : Bool) (v1 : LS) (w2 : Int) (h2 : Int) (o2 : Bool) (v2 : LS) (a1 : Fl .f32) (a2 : Fl .f32) (a3 : Fl .f32) (a4 : Fl .f32) (a5 : Fl .f32) (fo : Int) (gw : Int) (gh : Int) (gl : LI) (sd : Int) (sv : LS) (se : Int) : (fnT Γ_lawVal 10 4 [DeskD] [.bool] (w1, h1, o1, v1, w2, h2, o2, v2, a1, a2, a3, a4, a5, fo, gw, gh, gl, sd, sv, se)).den = d_lawVal w1 h1 o1 v1 w2 h2 o2 v2 a1 a2 a3 a4 a5 fo gw gh gl sd sv se := by kernel_rfl
theorem p_lawVal (w1 : Int) (h1 : Int) (o1 : Bool) (v1 : LS) (w2 : Int) (h2 : Int) (o2 : Bool) (v2 : LS) (a1 : Fl .f32) (a2 : Fl .f32) (a3 : Fl .f32) (a4 : Fl .f32) (a5 : Fl .f32) (fo : Int) (gw : Int) (gh : Int) (gl : LI) (sd : Int) (sv : LS) (se : Int) (r : Bool) (h : yesVG (w1, h1, o1, v1, w2, h2, o2, v2, a1, a2, a3, a4, a5, fo, gw, gh, gl, sd, sv, se) = some r) : d_lawVal w1 h1 o1 v1 w2 h2 o2 v2 a1 a2 a3 a4 a5 fo gw gh gl sd sv se = some r := by
  obtain ⟨⟨m1, m2, m3, m4⟩, rfl⟩ := if_some (show (if lensB (w1, h1, o1, v1, w2, h2, o2, v2, a1, a2, a3, a4, a5, fo, gw, gh, gl, sd, sv, se) maxLen then some true else none) = some r from h)
  have hl : lenD (w1, h1, o1, v1, w2, h2, o2, v2, a1, a2, a3, a4, a5, fo, gw, gh, gl, sd, sv, se) = v1.length + v2.length + (gl.length + sv.length) := rfl
  have k1 : szDG ((w1, h1, o1, v1, w2, h2, o2, v2, a1, a2, a3, a4, a5, fo, gw, gh, gl, sd, sv, se), 1048576) = some (szF 1048576 (lenD (w1, h1, o1, v1, w2, h2, o2, v2, a1, a2, a3, a4, a5, fo, gw, gh, gl, sd, sv, se))) := if_pos ⟨show (0 : Int) ≤ 1048576 by decide, show (1048576 : Int) ≤ 2 ^ 20 by decide, m1, m2, m3, m4⟩
  unfold d_lawVal
  simp only [sub_all, k1, Option.bind_some]
  by_cases c1 : (1048576 : Int) < (lenD (w1, h1, o1, v1, w2, h2, o2, v2, a1, a2, a3, a4, a5, fo, gw, gh, gl, sd, sv, se) : Int)
  · have e1 : szF 1048576 (lenD (w1, h1, o1, v1, w2, h2, o2, v2, a1, a2, a3, a4, a5, fo, gw, gh, gl, sd, sv, se)) = -1 := if_pos c1
    rw [e1]; rfl
  · have e1 : szF 1048576 (lenD (w1, h1, o1, v1, w2, h2, o2, v2, a1, a2, a3, a4, a5, fo, gw, gh, gl, sd, sv, se)) = 1048576 - (lenD (w1, h1, o1, v1, w2, h2, o2, v2, a1, a2, a3, a4, a5, fo, gw, gh, gl, sd, sv, se) : Int) := if_neg c1
    rw [e1, decide_eq_false (by omega), cond_false]
    have L : lensB (w1, h1, o1, v1, w2, h2, o2, v2, a1, a2, a3, a4, a5, fo, gw, gh, gl, sd, sv, se) (2 ^ 40) := ⟨show v1.length ≤ 2 ^ 40 by omega, show v2.length ≤ 2 ^ 40 by omega, show gl.length ≤ 2 ^ 40 by omega, show sv.length ≤ 2 ^ 40 by omega⟩
    have p1 : copyDG (w1, h1, o1, v1, w2, h2, o2, v2, a1, a2, a3, a4, a5, fo, gw, gh, gl, sd, sv, se) = some (w1, h1, o1, v1, w2, h2, o2, v2, a1, a2, a3, a4, a5, fo, gw, gh, gl, sd, sv, se) := if_pos L
    obtain ⟨b, hb⟩ := vd_ex (x := (w1, h1, o1, v1, w2, h2, o2, v2, a1, a2, a3, a4, a5, fo, gw, gh, gl, sd, sv, se)) L
    have p4 : selfDG ((w1, h1, o1, v1, w2, h2, o2, v2, a1, a2, a3, a4, a5, fo, gw, gh, gl, sd, sv, se), (w1, h1, o1, v1, w2, h2, o2, v2, a1, a2, a3, a4, a5, fo, gw, gh, gl, sd, sv, se)) = some true := if_pos ⟨rfl, L⟩
    simp only [p1, hb, p4, Option.bind_some, sub_all, eq_not_self, Bool.not_true, cond_false]
theorem s_lawVal : FTold Try.prog 4 yesVS := walkedF (fs := fs) (ss := ss_lawVal) (loop := loops_lawVal) tysOk mixed fnsOk ssOk_lawVal 10 4 [DeskD] [.bool] rfl _ fun (w1, h1, o1, v1, w2, h2, o2, v2, a1, a2, a3, a4, a5, fo, gw, gh, gl, sd, sv, se) r h => (t_lawVal w1 h1 o1 v1 w2 h2 o2 v2 a1 a2 a3 a4 a5 fo gw gh gl sd sv se).trans (p_lawVal w1 h1 o1 v1 w2 h2 o2 v2 a1 a2 a3 a4 a5 fo gw gh gl sd sv se r h)
open Go.RowKit Go.ChangeShapes Go.WideShapes Go.ChangeAt
set_option maxRecDepth 100000 in
theorem lifted_lawVal (os : Os) (started : os.Started) (H : Type) (enc : TypeId × Value → H) :
    ReturnsInHanded {} Try.checked os 4 .any (Rows.fnExactValidDeskSpec.pre6 enc Try.prog Try.f4 Rows.fnExactValidDeskRow.domain false) (Rows.fnExactValidDeskSpec.post enc Try.prog Try.f4 false true false false) := by
  refine returnsInHanded_of_change (C := Try.checked) own started (by kernel_rfl) Try.func4
    (ChangeSpec.witness6 (enc := enc) (C := Try.checked) false ⟨#[], #[.agg #[.int .i64 0, .int .i64 0, .bool false, .slice none 0 0, .int .i64 0, .int .i64 0, .bool false, .slice none 0 0, .float .f32 0, .float .f32 0, .float .f32 0, .float .f32 0, .float .f32 0, .int .i64 0, .int .i64 0, .int .i64 0, .slice none 0 0, .int .i64 0, .slice none 0 0, .int .i64 0]], []⟩ 8 (by kernel_rfl) (by kernel_rfl) (by kernel_rfl) (by kernel_rfl)) ?_
  intro W base args ds gs before hval hW _ _
  exact law_post (P := Try.prog) (fn := Try.f4) (s := Rows.fnExactValidDeskSpec) laidOut s_lawVal.out Try.func4 rfl (by kernel_rfl) (by kernel_rfl) (by kernel_rfl) rfl Try.underlying4 rfl (fun ds h => by
    match ds, h with
    | [d0], _ => exact ⟨rfl, rfl, rfl⟩) (fun x hw => by
      obtain ⟨_, _, _, m1, _, _, _, m2, _, _, _, _, _, _, _, _, m3, _, m4, _⟩ := hw
      exact if_pos ⟨m1.1, m2.1, m3.1, m4.1⟩) W base args ds gs before hval hW

theorem over4 : Rows.FnExactValidDeskSaid :=
  OpenClaim.holds_of_wide 4 Try.f4 rfl rfl rfl rfl rfl rfl rfl ⟨rfl, rfl, rfl, rfl, rfl⟩ rfl rfl rfl rfl rfl (by kernel_rfl) Try.func4 (by kernel_rfl)
    (of_decide_eq_true (by kernel_rfl)) (by unfold Func.isWrapper; first | (rw [if_pos (by decide +kernel)]; kernel_rfl) | (rw [if_neg (by decide +kernel)]; exact ⟨rfl, rfl⟩))
    (fun os started H enc _ => lifted_lawVal os started H enc)
end Go.Proofs.Ytffbjjngapejbaa
