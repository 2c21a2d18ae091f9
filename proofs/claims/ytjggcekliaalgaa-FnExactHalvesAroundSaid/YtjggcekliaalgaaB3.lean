/- Sines and phasors at the points that half planes need. No condition. -/
import Derived.Test.YtjggcekliaalgaaB2
namespace Go.Proofs.Ytjggcekliaalgaa
open Go.Ab
local notation "cQ" => Fl.of FloatKind.f64 4598175219545276416
local notation "cZ" => Fl.of FloatKind.f64 0
theorem sg_pos {k : FloatKind} {x : Fl k} (hx : fin x = true) (h : 0 < val x) : sg x = false := by
  have ha := au_nonneg x
  cases hs : sg x with
  | false => rfl
  | true =>
    rw [val_eq hx] at h
    unfold ng at h
    rw [hs, if_pos rfl] at h
    grind
theorem abs_same {x : Fl .f64} (hx : fin x = true) (hs : sg x = false) : fbits .f64 x = some (x.bits : Int) ∧ ofBits .f64 (ibits .andNot .u64 (x.bits : Int) 9223372036854775808) = some x ∧ fne x x = false ∧ fgt x (Fl.of .f64 9218868437227405311) = false := by
  have hlt : x.bits < 2 ^ 64 := x.lt
  have hb : x.bits % 2 ^ 63 = x.bits := by
    have hs : (x.bits / FloatKind.f64.format.signWeight % 2 == 1) = false := hs
    rw [show FloatKind.f64.format.signWeight = 2 ^ 63 by decide +kernel] at hs
    have : x.bits / 2 ^ 63 < 2 := by omega
    have hne : x.bits / 2 ^ 63 % 2 ≠ 1 := by intro e; rw [e] at hs; cases hs
    omega
  have h1 : fbits .f64 x = some (x.bits : Int) := by unfold fbits; rw [fin_nanB hx]; rfl
  have h2 : ofBits .f64 (ibits .andNot .u64 (x.bits : Int) 9223372036854775808) = some x := by
    rw [andNot_abs _ hlt, hb]
    unfold ofBits
    rw [Int.toNat_natCast, if_pos (show x.bits < 2 ^ FloatKind.f64.format.width from hlt), Fl.of_self]
  have h3 : fne x x = false := by rw [fne_self]; exact fin_nanB hx
  refine ⟨h1, h2, h3, ?_⟩
  have := isInf_tree x
  rw [h1, h3, hx] at this
  simp only [Bool.not_false, cond_true, Option.bind_some, h2] at this
  have := Option.some.inj this
  cases hg : fgt x (Fl.of .f64 9218868437227405311) with
  | false => rfl
  | true => rw [hg] at this; cases this
def good32 (x : Fl .f32) : Prop := fin x = true ∧ 0 < val x ∧ val x ≤ 2
noncomputable def sinC (x : Fl .f32) : Option (Fl .f32) := (wideG (fwide x)).bind fun y => fconv .f64 .f32 y
open Classical in
noncomputable def sin32G (x : Fl .f32) : Option (Fl .f32) := if good32 x then sinC x else none
noncomputable def sin32S : FSpec := ⟨[F32], [F32], sin32G⟩
theorem sin32_some {x r : Fl .f32} (h : sin32G x = some r) : good32 x ∧ sinC x = some r := by
  unfold sin32G at h
  split at h
  · exact ⟨by assumption, h⟩
  · cases h
theorem sin32_ex {x : Fl .f32} (h : good32 x) : ∃ z, sin32G x = some z := by
  have hw := fin_wide' h.1
  have hv := val_wide h.1
  obtain ⟨y, e1, e2, e3, e4, e5⟩ := sine_both hw (by rw [hv]; have := h.2.1; grind) (by rw [hv]; have := h.2.2; grind)
  obtain ⟨z, e6⟩ := narrow e3 e4 e5
  refine ⟨z, ?_⟩
  unfold sin32G
  rw [if_pos h]
  unfold sinC
  rw [e2]
  exact e6
def loops_l01Sine (_ _ _ : Nat) : Option LSpec := none
noncomputable def ss_l01Sine : List (Nat × FSpec) := [(161, wideS)]
theorem ssOk_l01Sine : FTolds Try.prog ss_l01Sine := ⟨s_wide, trivial⟩
noncomputable def Γ_l01Sine : Ctx := ctxOf Try.prog tys fs ss_l01Sine loops_l01Sine
noncomputable def d_l01Sine (x : Fl .f32) : Option ((Fl .f32)) := Option.bind (wideG (fwide x)) fun (r0 : (Fl .f64)) => (Option.bind (fconv .f64 .f32 r0) fun (r1 : (Fl .f32)) => (some (r1)))
theorem t_l01Sine (x : Fl .f32) : (fnT Γ_l01Sine 10 104 [F32] [F32] x).den = d_l01Sine x := by kernel_rfl
theorem p_l01Sine (x : Fl .f32) (r : (Fl .f32)) (h : sin32G x = some r) : d_l01Sine x = some r := by
  obtain ⟨g, h⟩ := sin32_some h
  unfold sinC at h
  unfold d_l01Sine
  cases hz : wideG (fwide x) with
  | none => rw [hz] at h; cases h
  | some y =>
    rw [hz] at h
    have h : fconv .f64 .f32 y = some r := h
    simp only [Option.bind_some, h]
theorem s_l01Sine : FTold Try.prog 104 sin32S := walkedF (fs := fs) (ss := ss_l01Sine) (loop := loops_l01Sine) tysOk mixed fnsOk ssOk_l01Sine 10 104 [F32] [F32] rfl _ fun x r h => (t_l01Sine x).trans (p_l01Sine x r h)
def loops_SineI (_ _ _ : Nat) : Option LSpec := none
noncomputable def ss_SineI : List (Nat × FSpec) := [(168, sineS), (106, finS), (196, bits64S), (195, from64S)]
theorem ssOk_SineI : FTolds Try.prog ss_SineI := ⟨s_sine, s_IsFinite, s_bits64, s_from64, trivial⟩
noncomputable def Γ_SineI : Ctx := ctxOf Try.prog tys fs ss_SineI loops_SineI
noncomputable def d_SineI (x : Fl .f32) : Option ((Fl .f32)) := Option.bind (finG x) fun (r0 : Bool) => (bif !r0 then (Option.bind (ofBits .f64 9221120237041090561) fun (r1 : (Fl .f64)) => (Option.bind (fconv .f64 .f32 r1) fun (r2 : (Fl .f32)) => (some (r2)))) else (Option.bind (fbits .f64 (fwide x)) fun (r3 : Int) => (Option.bind (ofBits .f64 (ibits BinOp.andNot IntKind.u64 r3 9223372036854775808)) fun (r4 : (Fl .f64)) => (bif fge r4 (Fl.of .f64 4841369599423283200) then (some (Fl.of .f32 0)) else (Option.bind (sineG (fwide x)) fun (r5 : (Fl .f64)) => (Option.bind (fconv .f64 .f32 r5) fun (r6 : (Fl .f32)) => (some (r6))))))))
theorem t_SineI (x : Fl .f32) : (fnT Γ_SineI 10 108 [F32] [F32] x).den = d_SineI x := by kernel_rfl
theorem p_SineI (x : Fl .f32) (r : (Fl .f32)) (h : sin32G x = some r) : d_SineI x = some r := by
  obtain ⟨g, h⟩ := sin32_some h
  have hw := fin_wide' g.1
  have hv := val_wide g.1
  have p0 : 0 < val (fwide x) := by rw [hv]; exact g.2.1
  have p1 : val (fwide x) ≤ 1000 := by rw [hv]; have := g.2.2; grind
  obtain ⟨y, e1, e2, e3, e4, e5⟩ := sine_both hw (by grind) p1
  obtain ⟨a1, a2, a3, a4⟩ := abs_same hw (sg_pos hw p0)
  obtain ⟨c1, c2, c3⟩ := guards hw (by grind) p1
  unfold sinC at h
  rw [e2] at h
  have h : fconv .f64 .f32 y = some r := h
  unfold d_SineI finG
  simp only [g.1, Option.bind_some, Bool.not_true, cond_false, a1, a2, c2, e1, h]
theorem s_SineI : FTold Try.prog 108 sin32S := walkedF (fs := fs) (ss := ss_SineI) (loop := loops_SineI) tysOk mixed fnsOk ssOk_SineI 10 108 [F32] [F32] rfl _ fun x r h => (t_SineI x).trans (p_SineI x r h)
def uQ (n : Nat) : Fl .f64 := fdiv (fofInt .f64 (n : Int)) (fofInt .f64 4)
theorem uQ_tab : ((List.range 5).all fun n => fin (uQ n) && decide (val (uQ n) = (n : Rat) / 4)) = true := by decide +kernel
theorem uQ_ok {n : Nat} (h : n ≤ 4) : fin (uQ n) = true ∧ val (uQ n) = (n : Rat) / 4 := by
  have := List.all_eq_true.1 uQ_tab n (List.mem_range.2 (by omega))
  rw [Bool.and_eq_true, decide_eq_true_iff] at this
  exact this
def phC (c s : Fl .f64) (q : Int) : Option (Fl .f32 × Fl .f32) :=
  bif q == 1 then (fconv .f64 .f32 (fsub cZ s)).bind fun a => (fconv .f64 .f32 c).bind fun b => some (a, b)
  else bif q == 2 then (fconv .f64 .f32 (fsub cZ c)).bind fun a => (fconv .f64 .f32 (fsub cZ s)).bind fun b => some (a, b)
  else bif q == 3 then (fconv .f64 .f32 s).bind fun a => (fconv .f64 .f32 (fsub cZ c)).bind fun b => some (a, b)
  else (fconv .f64 .f32 c).bind fun a => (fconv .f64 .f32 s).bind fun b => some (a, b)
theorem phC_ex {c s : Fl .f64} (hc : fin c = true) (hc0 : -2 ≤ val c) (hc1 : val c ≤ 2) (hs : fin s = true) (hs0 : -2 ≤ val s) (hs1 : val s ≤ 2) (q : Int) : ∃ z, phC c s q = some z := by
  have neg : ∀ {y : Fl .f64}, fin y = true → -2 ≤ val y → val y ≤ 2 → ∃ z, fconv .f64 .f32 (fsub cZ y) = some z := by
    intro y h h0 h1
    obtain ⟨a1, a2, a3⟩ := sub_between (x := cZ) (y := y) vZ.1 h w2n.1 w2.1 (by rw [w2n.2, vZ.2]; grind) (by rw [w2.2, vZ.2]; grind)
    rw [w2n.2] at a2
    rw [w2.2] at a3
    exact narrow a1 a2 a3
  obtain ⟨z1, k1⟩ := narrow hc hc0 hc1
  obtain ⟨z2, k2⟩ := narrow hs hs0 hs1
  obtain ⟨z3, k3⟩ := neg hc hc0 hc1
  obtain ⟨z4, k4⟩ := neg hs hs0 hs1
  unfold phC
  simp only [k1, k2, k3, k4, Option.bind_some]
  cases q == 1 <;> cases q == 2 <;> cases q == 3 <;> exact ⟨_, rfl⟩
def phB (y : ((Fl .f64) × (Int × Unit)) × Unit) : Option ((((Fl .f64) × (Int × Unit)) × Unit) ⊕ (((Fl .f64) × (Int × Unit)) × Unit)) := bif fge y.1.1 cQ then some (.inl ((fsub y.1.1 cQ, (IntKind.i64.wrap (y.1.2.1 + 1), ())), ())) else some (.inr ((y.1.1, (y.1.2.1, ())), ()))
theorem loopP' : ∀ (n : Nat) (F : Fl .f64) (q : Int), n ≤ 4 → fin F = true → 0 ≤ val F → val F ≤ (n : Rat) / 4 → ∃ f q', iter phB (n + 1) ((F, (q, ())), ()) = some ((f, (q', ())), ()) ∧ fin f = true ∧ 0 ≤ val f ∧ val f ≤ 1 / 4
  | 0, F, q, _, hF, h0, h1 => by
    have hz : val F = 0 := by
      have : ((0 : Nat) : Rat) / 4 = 0 := by decide +kernel
      rw [this] at h1
      exact Rat.le_antisymm h1 h0
    have e : fge F cQ = false := by rw [fge_val hF vQ.1, vQ.2]; exact decide_eq_false (by grind)
    refine ⟨F, q, ?_, hF, h0, by grind⟩
    rw [iter]
    unfold phB
    simp only [e, cond_false, Option.bind_some]
  | n + 1, F, q, hn, hF, h0, h1 => by
    cases hg : fge F cQ with
    | false =>
      have hv : val F ≤ 1 / 4 := by
        rw [fge_val hF vQ.1, vQ.2] at hg
        have := of_decide_eq_false hg
        grind
      refine ⟨F, q, ?_, hF, h0, hv⟩
      rw [iter]
      unfold phB
      simp only [hg, cond_false, Option.bind_some]
    | true =>
      have hv : 1 / 4 ≤ val F := by
        rw [fge_val hF vQ.1, vQ.2] at hg
        exact of_decide_eq_true hg
      obtain ⟨u1, u2⟩ := uQ_ok (n := n) (by omega)
      have hc : (((n + 1 : Nat)) : Rat) / 4 = (n : Rat) / 4 + 1 / 4 := by rw [Rat.natCast_add]; grind
      obtain ⟨a1, a2, a3⟩ := sub_between (x := F) (y := cQ) hF vQ.1 vZ.1 u1 (by rw [vZ.2, vQ.2]; grind) (by rw [u2, vQ.2]; grind)
      rw [vZ.2] at a2
      rw [u2] at a3
      obtain ⟨f, q', k1, k2⟩ := loopP' n (fsub F cQ) (IntKind.i64.wrap (q + 1)) (by omega) a1 a2 a3
      refine ⟨f, q', ?_, k2⟩
      rw [iter]
      have : phB ((F, (q, ())), ()) = some (.inl ((fsub F cQ, (IntKind.i64.wrap (q + 1), ())), ())) := by
        unfold phB
        simp only [hg, cond_true]
      rw [this]
      exact k1
theorem loopP {F : Fl .f64} (q : Int) (hF : fin F = true) (h0 : 0 ≤ val F) (h1 : val F ≤ 1) : ∃ f q', iter phB bigN ((F, (q, ())), ()) = some ((f, (q', ())), ()) ∧ fin f = true ∧ 0 ≤ val f ∧ val f ≤ 1 / 4 := by
  obtain ⟨f, q', k1, k2⟩ := loopP' 4 F q (Nat.le_refl _) hF h0 (by
    have : ((4 : Nat) : Rat) / 4 = 1 := by decide +kernel
    rw [this]; exact h1)
  exact ⟨f, q', iter_big k1 (by decide), k2⟩
def good64 (x : Fl .f64) : Prop := fin x = true ∧ sg x = false ∧ 0 ≤ val x ∧ val x ≤ 1
/-- the turns that are left, and both sines -/
theorem ph_parts {x : Fl .f64} (g : good64 x) : ∃ N F f q c s, ftoInt x .i64 = some (N : Int) ∧ fsub x (fofInt .f64 N) = F ∧ behG x = some F ∧ Go.Ab.flt F cZ = false ∧ iter phB bigN ((F, (0, ())), ()) = some ((f, (q, ())), ()) ∧ sineG (fsub cQ f) = some c ∧ wideG (fsub cQ f) = some c ∧ sineG f = some s ∧ wideG f = some s ∧ ∃ z, phC c s q = some z := by
  obtain ⟨h1, h2, h3, h4⟩ := g
  obtain ⟨N, F, _, e1, e2, e3, e4, e5, e6, e7⟩ := behind_both h1 h3 (by grind)
  obtain ⟨f, q, k1, k2, k3, k4⟩ := loopP 0 e4 e5 e6
  obtain ⟨a1, a2, a3⟩ := sub_between (x := cQ) (y := f) vQ.1 k2 vZ.1 vQ.1 (by rw [vZ.2, vQ.2]; grind) (by rw [vQ.2]; grind)
  rw [vZ.2] at a2
  rw [vQ.2] at a3
  obtain ⟨c, c1, c2, c3, c4, c5⟩ := sine_both a1 a2 (by grind)
  obtain ⟨s, s1, s2, s3, s4, s5⟩ := sine_both k2 k3 (by grind)
  exact ⟨N, F, f, q, c, s, e1, e2.symm, e3, e7, k1, c1, c2, s1, s2, phC_ex c3 c4 c5 s3 s4 s5 q⟩
def L_PhS_1 : LSpec := ⟨[3, 4], ⟨Shs.at 71 [(3, (.flt FloatKind.f64)), (4, (.int IntKind.i64))], []⟩, [⟨.ext 0, [3, 4], ⟨Shs.at 71 [(3, (.flt FloatKind.f64)), (4, (.int IntKind.i64))], []⟩⟩], fun _ => bigN⟩
def loops_PhS (f k n : Nat) : Option LSpec := bif (Nat.beq f 103 && Nat.beq k 9 && Nat.beq n 1) then some L_PhS_1 else none
abbrev S_PhS_1 : Type := (((Fl .f64) × (Int × Unit)) × Unit)
abbrev R_PhS_1 : Type := (((Fl .f64) × (Int × Unit)) × Unit)
noncomputable def B_PhS_1 (y : S_PhS_1) : Option (S_PhS_1 ⊕ R_PhS_1) := bif fge y.1.1 (Fl.of .f64 4598175219545276416) then (some (Sum.inl (((fsub y.1.1 (Fl.of .f64 4598175219545276416), (IntKind.i64.wrap (y.1.2.1 + 1), ())), ())))) else (some (Sum.inr (((y.1.1, (y.1.2.1, ())), ()))))
noncomputable def ss_PhS : List (Nat × FSpec) := [(161, wideS)]
theorem ssOk_PhS : FTolds Try.prog ss_PhS := ⟨s_wide, trivial⟩
noncomputable def Γ_PhS : Ctx := ctxOf Try.prog tys fs ss_PhS loops_PhS
noncomputable def d_PhS (x : Fl .f64) : Option (((Fl .f32) × (Fl .f32))) := bif fne (fsub x x) (Fl.of .f64 0) then (none) else (bif fge x (Fl.of .f64 4841369599423283200) then (some ((Fl.of .f32 1065353216, Fl.of .f32 0))) else (bif fle x (Fl.of .f64 14064741636278059008) then (some ((Fl.of .f32 1065353216, Fl.of .f32 0))) else (Option.bind (ftoInt x IntKind.i64) fun (r0 : Int) => (bif flt (fsub x (fofInt .f64 r0)) (Fl.of .f64 0) then (Option.bind (iter B_PhS_1 bigN (((fadd (fsub x (fofInt .f64 r0)) (Fl.of .f64 4607182418800017408), (0, ())), ()))) fun (r1 : (((Fl .f64) × (Int × Unit)) × Unit)) => (Option.bind (wideG (fsub (Fl.of .f64 4598175219545276416) r1.1.1)) fun (r2 : (Fl .f64)) => (Option.bind (wideG r1.1.1) fun (r3 : (Fl .f64)) => (bif r1.1.2.1 == 1 then (Option.bind (fconv .f64 .f32 (fsub (Fl.of .f64 0) r3)) fun (r4 : (Fl .f32)) => (Option.bind (fconv .f64 .f32 r2) fun (r5 : (Fl .f32)) => (some ((r4, r5))))) else (bif r1.1.2.1 == 2 then (Option.bind (fconv .f64 .f32 (fsub (Fl.of .f64 0) r2)) fun (r6 : (Fl .f32)) => (Option.bind (fconv .f64 .f32 (fsub (Fl.of .f64 0) r3)) fun (r7 : (Fl .f32)) => (some ((r6, r7))))) else (bif r1.1.2.1 == 3 then (Option.bind (fconv .f64 .f32 r3) fun (r8 : (Fl .f32)) => (Option.bind (fconv .f64 .f32 (fsub (Fl.of .f64 0) r2)) fun (r9 : (Fl .f32)) => (some ((r8, r9))))) else (Option.bind (fconv .f64 .f32 r2) fun (r10 : (Fl .f32)) => (Option.bind (fconv .f64 .f32 r3) fun (r11 : (Fl .f32)) => (some ((r10, r11))))))))))) else (Option.bind (iter B_PhS_1 bigN (((fsub x (fofInt .f64 r0), (0, ())), ()))) fun (r12 : (((Fl .f64) × (Int × Unit)) × Unit)) => (Option.bind (wideG (fsub (Fl.of .f64 4598175219545276416) r12.1.1)) fun (r13 : (Fl .f64)) => (Option.bind (wideG r12.1.1) fun (r14 : (Fl .f64)) => (bif r12.1.2.1 == 1 then (Option.bind (fconv .f64 .f32 (fsub (Fl.of .f64 0) r14)) fun (r15 : (Fl .f32)) => (Option.bind (fconv .f64 .f32 r13) fun (r16 : (Fl .f32)) => (some ((r15, r16))))) else (bif r12.1.2.1 == 2 then (Option.bind (fconv .f64 .f32 (fsub (Fl.of .f64 0) r13)) fun (r17 : (Fl .f32)) => (Option.bind (fconv .f64 .f32 (fsub (Fl.of .f64 0) r14)) fun (r18 : (Fl .f32)) => (some ((r17, r18))))) else (bif r12.1.2.1 == 3 then (Option.bind (fconv .f64 .f32 r14) fun (r19 : (Fl .f32)) => (Option.bind (fconv .f64 .f32 (fsub (Fl.of .f64 0) r13)) fun (r20 : (Fl .f32)) => (some ((r19, r20))))) else (Option.bind (fconv .f64 .f32 r13) fun (r21 : (Fl .f32)) => (Option.bind (fconv .f64 .f32 r14) fun (r22 : (Fl .f32)) => (some ((r21, r22)))))))))))))))
theorem t_PhS (x : Fl .f64) : (fnT Γ_PhS 10 103 [F64] [.cpx .f32] x).den = d_PhS x := by kernel_rfl
open Classical in
noncomputable def phG (x : Fl .f64) : Option (Fl .f32 × Fl .f32) := if good64 x then d_PhS x else none
noncomputable def phS : FSpec := ⟨[F64], [.cpx .f32], phG⟩
theorem ph_some {x : Fl .f64} {r : Fl .f32 × Fl .f32} (h : phG x = some r) : good64 x ∧ d_PhS x = some r := by
  unfold phG at h
  split at h
  · exact ⟨by assumption, h⟩
  · cases h
theorem p_PhS (x : Fl .f64) (r : ((Fl .f32) × (Fl .f32))) (h : phG x = some r) : d_PhS x = some r := by
  exact (ph_some h).2
theorem s_PhS : FTold Try.prog 103 phS := walkedF (fs := fs) (ss := ss_PhS) (loop := loops_PhS) tysOk mixed fnsOk ssOk_PhS 10 103 [F64] [.cpx .f32] rfl _ fun x r h => (t_PhS x).trans (p_PhS x r h)
theorem phS_of {x : Fl .f64} (g : good64 x) {N : Int} {F f c s : Fl .f64} {q : Int} (e1 : ftoInt x .i64 = some N) (e2 : fsub x (fofInt .f64 N) = F) (e4 : Go.Ab.flt F cZ = false) (e5 : iter phB bigN ((F, (0, ())), ()) = some ((f, (q, ())), ())) (e6 : wideG (fsub cQ f) = some c) (e7 : wideG f = some s) : d_PhS x = phC c s q := by
  obtain ⟨c1, c2, c3⟩ := guards g.1 g.2.2.1 (by have := g.2.2.2; grind)
  unfold d_PhS
  simp only [c1, c2, c3, cond_false, e1, Option.bind_some, e2, e4]
  refine (congrArg (fun z => Option.bind z _) (show iter B_PhS_1 bigN _ = _ from e5)).trans ?_
  simp only [Option.bind_some, e6, e7]
  rfl
theorem ph_ex {x : Fl .f64} (g : good64 x) : ∃ z, phG x = some z := by
  obtain ⟨N, F, f, q, c, s, e1, e2, e3, e4, e5, e6, e7, e8, e9, z, e10⟩ := ph_parts g
  refine ⟨z, ?_⟩
  unfold phG
  rw [if_pos g, phS_of g e1 e2 e4 e5 e7 e9, e10]
def L_PhI_1 : LSpec := ⟨[4, 5], ⟨Shs.at 60 [(4, (.flt FloatKind.f64)), (5, (.int IntKind.i64))], []⟩, [⟨.ext 1, [4, 5], ⟨Shs.at 60 [(4, (.flt FloatKind.f64)), (5, (.int IntKind.i64))], []⟩⟩], fun _ => bigN⟩
def loops_PhI (f k n : Nat) : Option LSpec := bif (Nat.beq f 107 && Nat.beq k 7 && Nat.beq n 1) then some L_PhI_1 else none
abbrev S_PhI_1 : Type := (((Fl .f64) × (Int × Unit)) × Unit)
abbrev R_PhI_1 : Type := (((Fl .f64) × (Int × Unit)) × Unit)
noncomputable def B_PhI_1 (y : S_PhI_1) : Option (S_PhI_1 ⊕ R_PhI_1) := bif fge y.1.1 (Fl.of .f64 4598175219545276416) then (some (Sum.inl (((fsub y.1.1 (Fl.of .f64 4598175219545276416), (IntKind.i64.wrap (y.1.2.1 + 1), ())), ())))) else (some (Sum.inr (((y.1.1, (y.1.2.1, ())), ()))))
noncomputable def ss_PhI : List (Nat × FSpec) := [(168, sineS), (167, behS), (196, bits64S), (195, from64S)]
theorem ssOk_PhI : FTolds Try.prog ss_PhI := ⟨s_sine, s_behind, s_bits64, s_from64, trivial⟩
noncomputable def Γ_PhI : Ctx := ctxOf Try.prog tys fs ss_PhI loops_PhI
noncomputable def d_PhI (x : Fl .f64) : Option (((Fl .f32) × (Fl .f32))) := bif !fne x x then (bif true then (Option.bind (fbits .f64 x) fun (r0 : Int) => (Option.bind (ofBits .f64 (ibits BinOp.andNot IntKind.u64 r0 9223372036854775808)) fun (r1 : (Fl .f64)) => (bif !!fgt r1 (Fl.of .f64 9218868437227405311) then (Option.bind (ofBits .f64 9221120237041090561) fun (r2 : (Fl .f64)) => (Option.bind (fconv .f64 .f32 r2) fun (r3 : (Fl .f32)) => (some ((r3, r3))))) else (Option.bind (fbits .f64 x) fun (r4 : Int) => (Option.bind (ofBits .f64 (ibits BinOp.andNot IntKind.u64 r4 9223372036854775808)) fun (r5 : (Fl .f64)) => (bif fge r5 (Fl.of .f64 4841369599423283200) then (some ((Fl.of .f32 1065353216, Fl.of .f32 0))) else (Option.bind (behG x) fun (r6 : (Fl .f64)) => (Option.bind (iter B_PhI_1 bigN (((r6, (0, ())), ()))) fun (r7 : (((Fl .f64) × (Int × Unit)) × Unit)) => (Option.bind (sineG (fsub (Fl.of .f64 4598175219545276416) r7.1.1)) fun (r8 : (Fl .f64)) => (Option.bind (sineG r7.1.1) fun (r9 : (Fl .f64)) => (bif r7.1.2.1 == 1 then (Option.bind (fconv .f64 .f32 (fsub (Fl.of .f64 0) r9)) fun (r10 : (Fl .f32)) => (Option.bind (fconv .f64 .f32 r8) fun (r11 : (Fl .f32)) => (some ((r10, r11))))) else (bif r7.1.2.1 == 2 then (Option.bind (fconv .f64 .f32 (fsub (Fl.of .f64 0) r8)) fun (r12 : (Fl .f32)) => (Option.bind (fconv .f64 .f32 (fsub (Fl.of .f64 0) r9)) fun (r13 : (Fl .f32)) => (some ((r12, r13))))) else (bif r7.1.2.1 == 3 then (Option.bind (fconv .f64 .f32 r9) fun (r14 : (Fl .f32)) => (Option.bind (fconv .f64 .f32 (fsub (Fl.of .f64 0) r8)) fun (r15 : (Fl .f32)) => (some ((r14, r15))))) else (Option.bind (fconv .f64 .f32 r8) fun (r16 : (Fl .f32)) => (Option.bind (fconv .f64 .f32 r9) fun (r17 : (Fl .f32)) => (some ((r16, r17)))))))))))))))))) else (bif false then (bif !!fgt (fneg x) (Fl.of .f64 9218868437227405311) then (Option.bind (ofBits .f64 9221120237041090561) fun (r18 : (Fl .f64)) => (Option.bind (fconv .f64 .f32 r18) fun (r19 : (Fl .f32)) => (some ((r19, r19))))) else (Option.bind (fbits .f64 x) fun (r20 : Int) => (Option.bind (ofBits .f64 (ibits BinOp.andNot IntKind.u64 r20 9223372036854775808)) fun (r21 : (Fl .f64)) => (bif fge r21 (Fl.of .f64 4841369599423283200) then (some ((Fl.of .f32 1065353216, Fl.of .f32 0))) else (Option.bind (behG x) fun (r22 : (Fl .f64)) => (Option.bind (iter B_PhI_1 bigN (((r22, (0, ())), ()))) fun (r23 : (((Fl .f64) × (Int × Unit)) × Unit)) => (Option.bind (sineG (fsub (Fl.of .f64 4598175219545276416) r23.1.1)) fun (r24 : (Fl .f64)) => (Option.bind (sineG r23.1.1) fun (r25 : (Fl .f64)) => (bif r23.1.2.1 == 1 then (Option.bind (fconv .f64 .f32 (fsub (Fl.of .f64 0) r25)) fun (r26 : (Fl .f32)) => (Option.bind (fconv .f64 .f32 r24) fun (r27 : (Fl .f32)) => (some ((r26, r27))))) else (bif r23.1.2.1 == 2 then (Option.bind (fconv .f64 .f32 (fsub (Fl.of .f64 0) r24)) fun (r28 : (Fl .f32)) => (Option.bind (fconv .f64 .f32 (fsub (Fl.of .f64 0) r25)) fun (r29 : (Fl .f32)) => (some ((r28, r29))))) else (bif r23.1.2.1 == 3 then (Option.bind (fconv .f64 .f32 r25) fun (r30 : (Fl .f32)) => (Option.bind (fconv .f64 .f32 (fsub (Fl.of .f64 0) r24)) fun (r31 : (Fl .f32)) => (some ((r30, r31))))) else (Option.bind (fconv .f64 .f32 r24) fun (r32 : (Fl .f32)) => (Option.bind (fconv .f64 .f32 r25) fun (r33 : (Fl .f32)) => (some ((r32, r33)))))))))))))))) else (bif !!fgt x (Fl.of .f64 9218868437227405311) then (Option.bind (ofBits .f64 9221120237041090561) fun (r34 : (Fl .f64)) => (Option.bind (fconv .f64 .f32 r34) fun (r35 : (Fl .f32)) => (some ((r35, r35))))) else (Option.bind (fbits .f64 x) fun (r36 : Int) => (Option.bind (ofBits .f64 (ibits BinOp.andNot IntKind.u64 r36 9223372036854775808)) fun (r37 : (Fl .f64)) => (bif fge r37 (Fl.of .f64 4841369599423283200) then (some ((Fl.of .f32 1065353216, Fl.of .f32 0))) else (Option.bind (behG x) fun (r38 : (Fl .f64)) => (Option.bind (iter B_PhI_1 bigN (((r38, (0, ())), ()))) fun (r39 : (((Fl .f64) × (Int × Unit)) × Unit)) => (Option.bind (sineG (fsub (Fl.of .f64 4598175219545276416) r39.1.1)) fun (r40 : (Fl .f64)) => (Option.bind (sineG r39.1.1) fun (r41 : (Fl .f64)) => (bif r39.1.2.1 == 1 then (Option.bind (fconv .f64 .f32 (fsub (Fl.of .f64 0) r41)) fun (r42 : (Fl .f32)) => (Option.bind (fconv .f64 .f32 r40) fun (r43 : (Fl .f32)) => (some ((r42, r43))))) else (bif r39.1.2.1 == 2 then (Option.bind (fconv .f64 .f32 (fsub (Fl.of .f64 0) r40)) fun (r44 : (Fl .f32)) => (Option.bind (fconv .f64 .f32 (fsub (Fl.of .f64 0) r41)) fun (r45 : (Fl .f32)) => (some ((r44, r45))))) else (bif r39.1.2.1 == 3 then (Option.bind (fconv .f64 .f32 r41) fun (r46 : (Fl .f32)) => (Option.bind (fconv .f64 .f32 (fsub (Fl.of .f64 0) r40)) fun (r47 : (Fl .f32)) => (some ((r46, r47))))) else (Option.bind (fconv .f64 .f32 r40) fun (r48 : (Fl .f32)) => (Option.bind (fconv .f64 .f32 r41) fun (r49 : (Fl .f32)) => (some ((r48, r49)))))))))))))))))) else (Option.bind (ofBits .f64 9221120237041090561) fun (r50 : (Fl .f64)) => (Option.bind (fconv .f64 .f32 r50) fun (r51 : (Fl .f32)) => (some ((r51, r51)))))
theorem t_PhI (x : Fl .f64) : (fnT Γ_PhI 10 107 [F64] [.cpx .f32] x).den = d_PhI x := by kernel_rfl
theorem p_PhI (x : Fl .f64) (r : ((Fl .f32) × (Fl .f32))) (h : phG x = some r) : d_PhI x = some r := by
  obtain ⟨g, h⟩ := ph_some h
  obtain ⟨N, F, f, q, c, s, e1, e2, e3, e4, e5, e6, e7, e8, e9, z, e10⟩ := ph_parts g
  rw [phS_of g e1 e2 e4 e5 e7 e9] at h
  rw [← h]
  obtain ⟨a1, a2, a3, a4⟩ := abs_same g.1 g.2.1
  obtain ⟨c1, c2, c3⟩ := guards g.1 g.2.2.1 (by have := g.2.2.2; grind)
  unfold d_PhI
  simp only [a3, Bool.not_false, cond_true, a1, a2, Option.bind_some, a4, Bool.not_true, cond_false, c2, e3]
  refine (congrArg (fun z => Option.bind z _) (show iter B_PhI_1 bigN _ = _ from e5)).trans ?_
  simp only [Option.bind_some, e6, e8]
  rfl
theorem s_PhI : FTold Try.prog 107 phS := walkedF (fs := fs) (ss := ss_PhI) (loop := loops_PhI) tysOk mixed fnsOk ssOk_PhI 10 107 [F64] [.cpx .f32] rfl _ fun x r h => (t_PhI x).trans (p_PhI x r h)
end Go.Proofs.Ytjggcekliaalgaa
