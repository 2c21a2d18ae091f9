/- The program's ValidDesk answers as the reference's does, at all arguments. No condition. -/
import Derived.Test.YtffbjjngapejbaaD3
import Derived.Test.YtffbjjngapejbaaLE
namespace Go.Proofs.Ytffbjjngapejbaa
open Go.Ab
theorem bif_iffd {b : Bool} {p q : Prop} {t : Option Bool} (hb : b = true ↔ p) (ht : p → ∃ c, t = some c ∧ (c = true ↔ q)) : ∃ c, (bif b then t else some false) = some c ∧ (c = true ↔ p ∧ q) := by
  cases b with
  | true =>
    obtain ⟨c, h1, h2⟩ := ht (hb.1 rfl)
    exact ⟨c, h1, by rw [h2]; exact ⟨fun h => ⟨hb.1 rfl, h⟩, fun h => h.2⟩⟩
  | false => exact ⟨false, rfl, ⟨fun h => (by cases h), fun h => (by have := hb.2 h.1; cases this)⟩⟩
theorem bifn_iffd {b : Bool} {p q : Prop} {t : Option Bool} (hb : b = true ↔ p) (ht : p → ∃ c, t = some c ∧ (c = true ↔ q)) : ∃ c, (bif !b then some false else t) = some c ∧ (c = true ↔ p ∧ q) := by
  cases b with
  | true =>
    obtain ⟨c, h1, h2⟩ := ht (hb.1 rfl)
    exact ⟨c, h1, by rw [h2]; exact ⟨fun h => ⟨hb.1 rfl, h⟩, fun h => h.2⟩⟩
  | false => exact ⟨false, rfl, ⟨fun h => (by cases h), fun h => (by have := hb.2 h.1; cases this)⟩⟩
theorem bne_iffd {a b : Int} {q : Prop} {t : Option Bool} (ht : a = b → ∃ c, t = some c ∧ (c = true ↔ q)) : ∃ c, (bif a != b then some false else t) = some c ∧ (c = true ↔ a = b ∧ q) := by
  have : (a != b) = !(a == b) := rfl
  rw [this]
  exact bifn_iffd (beq_iff a b) ht
theorem and2 {a b : Prop} [Decidable a] [Decidable b] : (decide a && decide b) = true ↔ a ∧ b := by rw [Bool.and_eq_true, decide_eq_true_iff, decide_eq_true_iff]
def seedG (x : Int) : Option Bool := some (decide (0 ≤ x) && decide (x ≤ 2147483647))
def seedS : FSpec := ⟨[I64], [.bool], seedG⟩
def loops_isSeed (_ _ _ : Nat) : Option LSpec := none
noncomputable def ss_isSeed : List (Nat × FSpec) := [(85, withinS)]
theorem ssOk_isSeed : FTolds Try.prog ss_isSeed := ⟨s_within, trivial⟩
noncomputable def Γ_isSeed : Ctx := ctxOf Try.prog tys fs ss_isSeed loops_isSeed
noncomputable def d_isSeed (x : Int) : Option (Bool) := Option.bind (withinG (x, 0, 2147483647)) fun (r0 : Bool) => (some (r0))
theorem t_isSeed (x : Int) : (fnT Γ_isSeed 10 59 [I64] [.bool] x).den = d_isSeed x := by kernel_rfl
theorem p_isSeed (x : Int) (r : Bool) (h : seedG x = some r) : d_isSeed x = some r := by
  exact h
theorem s_isSeed : FTold Try.prog 59 seedS := walkedF (fs := fs) (ss := ss_isSeed) (loop := loops_isSeed) tysOk mixed fnsOk ssOk_isSeed 10 59 [I64] [.bool] rfl _ fun x r h => (t_isSeed x).trans (p_isSeed x r h)
def loops_l02Seed (_ _ _ : Nat) : Option LSpec := none
noncomputable def ss_l02Seed : List (Nat × FSpec) := [(82, withinS)]
theorem ssOk_l02Seed : FTolds Try.prog ss_l02Seed := ⟨s_l00In, trivial⟩
noncomputable def Γ_l02Seed : Ctx := ctxOf Try.prog tys fs ss_l02Seed loops_l02Seed
noncomputable def d_l02Seed (x : Int) : Option (Bool) := Option.bind (withinG (x, 0, 2147483647)) fun (r0 : Bool) => (some (r0))
theorem t_l02Seed (x : Int) : (fnT Γ_l02Seed 10 121 [I64] [.bool] x).den = d_l02Seed x := by kernel_rfl
theorem p_l02Seed (x : Int) (r : Bool) (h : seedG x = some r) : d_l02Seed x = some r := by
  exact h
theorem s_l02Seed : FTold Try.prog 121 seedS := walkedF (fs := fs) (ss := ss_l02Seed) (loop := loops_l02Seed) tysOk mixed fnsOk ssOk_l02Seed 10 121 [I64] [.bool] rfl _ fun x r h => (t_l02Seed x).trans (p_l02Seed x r h)
def areB (p q : Int) (l : LI) : Bool := l.all fun n => decide (p ≤ n) && decide (n ≤ q)
def areG (x : Int × Int × LI) : Option Bool := if x.2.2.length < 2 ^ 62 then some (areB x.1 x.2.1 x.2.2) else none
def areS : FSpec := ⟨[I64, I64, L64], [.bool], areG⟩
theorem are_yes {p q : Int} {l : LI} (h : ∀ i, i < l.length → (decide (p ≤ l.getD i 0) && decide (l.getD i 0 ≤ q)) = true) : areB p q l = true :=
  List.all_eq_true.2 fun x hx => by
    obtain ⟨j, hj, rfl⟩ := List.getElem_of_mem hx
    have := h j hj
    simpa [List.getD_eq_getElem?_getD, hj] using this
theorem are_no {p q : Int} {l : LI} {i : Nat} (hi : i < l.length) (h : (decide (p ≤ l.getD i 0) && decide (l.getD i 0 ≤ q)) = false) : areB p q l = false := by
  unfold areB
  rw [List.all_eq_false]
  refine ⟨l[i], List.getElem_mem _, ?_⟩
  rw [show l.getD i 0 = l[i] by simp [List.getD_eq_getElem?_getD, hi]] at h
  rw [h]; decide
def L_areWithin_1 : LSpec := ⟨[0, 1, 7, 8], ⟨Shs.at 19 [(0, (.slc 2)), (1, (.fn (Fn.func 162) .nil (.cons (.ptr 1028 0 0) (.cons (.ptr 1029 0 0) .nil)))), (7, (.int IntKind.i64)), (8, (.int IntKind.i64))], [(2, (.arr false (EK.int IntKind.i64))), (1028, (.vals true (.cons (.int IntKind.i64) .nil))), (1029, (.vals true (.cons (.int IntKind.i64) .nil)))]⟩, [⟨.ret, [4], ⟨Shs.at 19 [(4, (.int IntKind.i64))], [(2, (.arr false (EK.int IntKind.i64))), (1028, (.vals true (.cons (.int IntKind.i64) .nil))), (1029, (.vals true (.cons (.int IntKind.i64) .nil)))]⟩⟩, ⟨.ext 0, [], ⟨Shs.at 19 [], [(2, (.arr false (EK.int IntKind.i64))), (1028, (.vals true (.cons (.int IntKind.i64) .nil))), (1029, (.vals true (.cons (.int IntKind.i64) .nil)))]⟩⟩], fun _ => bigN⟩
def loops_areWithin (f k n : Nat) : Option LSpec := bif (Nat.beq f 167 && Nat.beq k 2 && Nat.beq n 1058824) then some L_areWithin_1 else none
abbrev S_areWithin_1 : Type := ((Nat × ((Unit × Unit) × (Int × (Int × Unit)))) × ((List Int) × ((Int × Unit) × ((Int × Unit) × Unit))))
abbrev R_areWithin_1 : Type := (((Int × Unit) × ((List Int) × ((Int × Unit) × ((Int × Unit) × Unit)))) ⊕ (Unit × ((List Int) × ((Int × Unit) × ((Int × Unit) × Unit)))))
noncomputable def B_areWithin_1 (y : S_areWithin_1) : Option (S_areWithin_1 ⊕ R_areWithin_1) := bif decide (y.1.2.2.2.1 < y.1.2.2.1) then (bif inB y.1.2.2.2.1 y.1.1 then (Option.bind (withinG (List.getD y.2.1 (0 + Int.toNat y.1.2.2.2.1) (0 : Int), y.2.2.1.1, y.2.2.2.1.1)) fun (r1 : Bool) => (bif !r1 then (some (Sum.inr (Sum.inl (((y.1.2.2.2.1, ()), (y.2.1, ((y.2.2.1.1, ()), ((y.2.2.2.1.1, ()), ())))))))) else (some (Sum.inl (((y.1.1, (((), ()), (y.1.2.2.1, (IntKind.i64.wrap (y.1.2.2.2.1 + 1), ())))), (y.2.1, ((y.2.2.1.1, ()), ((y.2.2.2.1.1, ()), ()))))))))) else (none)) else (some (Sum.inr (Sum.inr (((), (y.2.1, ((y.2.2.1.1, ()), ((y.2.2.2.1.1, ()), ()))))))))
noncomputable def ss_areWithin : List (Nat × FSpec) := [(85, withinS)]
theorem ssOk_areWithin : FTolds Try.prog ss_areWithin := ⟨s_within, trivial⟩
noncomputable def Γ_areWithin : Ctx := ctxOf Try.prog tys fs ss_areWithin loops_areWithin
noncomputable def d_areWithin (p q : Int) (l : LI) : Option (Bool) := Option.bind (iter B_areWithin_1 bigN (((List.length l, (((), ()), (((List.length l : Nat) : Int), (0, ())))), (l, ((p, ()), ((q, ()), ())))))) fun (r0 : (((Int × Unit) × ((List Int) × ((Int × Unit) × ((Int × Unit) × Unit)))) ⊕ (Unit × ((List Int) × ((Int × Unit) × ((Int × Unit) × Unit)))))) => (match r0 with | .inl x2 => (some (!decide (x2.1.1 ≥ 0))) | .inr x2 => (some (true)))
theorem t_areWithin (p q : Int) (l : LI) : (fnT Γ_areWithin 10 128 [I64, I64, L64] [.bool] (p, q, l)).den = d_areWithin p q l := by kernel_rfl
theorem p_areWithin (p q : Int) (l : LI) (r : Bool) (h : areG (p, q, l) = some r) : d_areWithin p q l = some r := by
  obtain ⟨hb, rfl⟩ := if_some (show (if l.length < 2 ^ 62 then some (areB p q l) else none) = some r from h)
  unfold d_areWithin
  have key := iter_find' (B := B_areWithin_1) (fun i => ((l.length, (((), ()), ((l.length : Int), ((i : Int), ())))), (l, ((p, ()), ((q, ()), ()))))) 0 l.length (fun i => if (decide (p ≤ l.getD i 0) && decide (l.getD i 0 ≤ q)) = true then none else some (.inl (((i : Int), ()), (l, ((p, ()), ((q, ()), ())))))) (.inr ((), (l, ((p, ()), ((q, ()), ()))))) (Nat.zero_le _) hb (fun i _ hi => by
    unfold B_areWithin_1 withinG
    simp only [ltT hi, inB_of hi, inc64 hi hb, cond_true, Int.toNat_natCast, Nat.zero_add, Option.bind_some]
    by_cases e : (decide (p ≤ l.getD i 0) && decide (l.getD i 0 ≤ q)) = true
    · rw [if_pos e, e]; rfl
    · rw [if_neg e, Bool.eq_false_iff.2 e]; rfl) (by
    unfold B_areWithin_1
    simp only [ltF, cond_false])
  refine (congrArg (fun z => Option.bind z _) (show iter B_areWithin_1 bigN _ = _ from key)).trans ?_
  cases hf : firstOf (fun i => if (decide (p ≤ l.getD i 0) && decide (l.getD i 0 ≤ q)) = true then none else some (.inl (((i : Int), ()), (l, ((p, ()), ((q, ()), ())))) : R_areWithin_1)) (l.length - 0) 0 with
  | none =>
    rw [are_yes fun i hi => by
      have := (firstOf_none _ _ _).1 hf i (Nat.zero_le _) (by omega)
      by_cases e : (decide (p ≤ l.getD i 0) && decide (l.getD i 0 ≤ q)) = true
      · exact e
      · rw [if_neg e] at this; cases this]
    rfl
  | some z =>
    obtain ⟨j, _, hj, hs⟩ := firstOf_some _ _ _ _ hf
    by_cases e : (decide (p ≤ l.getD j 0) && decide (l.getD j 0 ≤ q)) = true
    · rw [if_pos e] at hs; cases hs
    · rw [if_neg e] at hs
      cases hs
      rw [are_no (i := j) (by omega) (Bool.eq_false_iff.2 e)]
      show some (!decide ((j : Int) ≥ 0)) = some false
      rw [decide_eq_true (by omega)]; rfl
theorem s_areWithin : FTold Try.prog 128 areS := walkedF (fs := fs) (ss := ss_areWithin) (loop := loops_areWithin) tysOk mixed fnsOk ssOk_areWithin 10 128 [I64, I64, L64] [.bool] rfl _ fun (p, q, l) r h => (t_areWithin p q l).trans (p_areWithin p q l r h)
def sizeG (x : Int × Int) : Option Bool := some (areB 1 16 [x.1, x.2])
def sizeS : FSpec := ⟨[I64, I64], [.bool], sizeG⟩
theorem size_iff (p q : Int) : areB 1 16 [p, q] = true ↔ (1 ≤ p ∧ p ≤ 16) ∧ 1 ≤ q ∧ q ≤ 16 := by
  unfold areB
  simp
def loops_l02Size (_ _ _ : Nat) : Option LSpec := none
noncomputable def ss_l02Size : List (Nat × FSpec) := [(82, withinS)]
theorem ssOk_l02Size : FTolds Try.prog ss_l02Size := ⟨s_l00In, trivial⟩
noncomputable def Γ_l02Size : Ctx := ctxOf Try.prog tys fs ss_l02Size loops_l02Size
noncomputable def d_l02Size (p q : Int) : Option (Bool) := Option.bind (withinG (p, 1, 16)) fun (r0 : Bool) => (bif r0 then (Option.bind (withinG (q, 1, 16)) fun (r1 : Bool) => (some (r1))) else (some (false)))
theorem t_l02Size (p q : Int) : (fnT Γ_l02Size 10 131 [I64, I64] [.bool] (p, q)).den = d_l02Size p q := by kernel_rfl
theorem p_l02Size (p q : Int) (r : Bool) (h : sizeG (p, q) = some r) : d_l02Size p q = some r := by
  refine Eq.trans ?_ h
  unfold d_l02Size sizeG areB withinG
  simp only [Option.bind_some, List.all_cons, List.all_nil, Bool.and_true]
  cases decide (1 ≤ p) <;> cases decide (p ≤ 16) <;> rfl
theorem s_l02Size : FTold Try.prog 131 sizeS := walkedF (fs := fs) (ss := ss_l02Size) (loop := loops_l02Size) tysOk mixed fnsOk ssOk_l02Size 10 131 [I64, I64] [.bool] rfl _ fun (p, q) r h => (t_l02Size p q).trans (p_l02Size p q r h)
def leastB (x : Fl .f32) : Bool := fin x && fge x (Fl.of .f32 0)
def leastG (x : Fl .f32) : Option Bool := some (leastB x)
def leastS : FSpec := ⟨[F32], [.bool], leastG⟩
def loops_aMass (_ _ _ : Nat) : Option LSpec := none
noncomputable def ss_aMass : List (Nat × FSpec) := [(140, finS)]
theorem ssOk_aMass : FTolds Try.prog ss_aMass := ⟨s_IsFinite, trivial⟩
noncomputable def Γ_aMass : Ctx := ctxOf Try.prog tys fs ss_aMass loops_aMass
noncomputable def d_aMass (x : Fl .f32) : Option (Bool) := Option.bind (finG x) fun (r0 : Bool) => (bif r0 then (some (fge x (Fl.of .f32 0))) else (some (false)))
theorem t_aMass (x : Fl .f32) : (fnT Γ_aMass 10 127 [F32] [.bool] x).den = d_aMass x := by kernel_rfl
theorem p_aMass (x : Fl .f32) (r : Bool) (h : leastG x = some r) : d_aMass x = some r := by
  refine Eq.trans ?_ h
  unfold d_aMass leastG leastB finG
  cases fin x <;> rfl
theorem s_aMass : FTold Try.prog 127 leastS := walkedF (fs := fs) (ss := ss_aMass) (loop := loops_aMass) tysOk mixed fnsOk ssOk_aMass 10 127 [F32] [.bool] rfl _ fun x r h => (t_aMass x).trans (p_aMass x r h)
def loops_least (_ _ _ : Nat) : Option LSpec := none
noncomputable def ss_least : List (Nat × FSpec) := [(81, finS)]
theorem ssOk_least : FTolds Try.prog ss_least := ⟨s_l01Finite, trivial⟩
noncomputable def Γ_least : Ctx := ctxOf Try.prog tys fs ss_least loops_least
noncomputable def d_least (x : Fl .f32) : Option (Bool) := Option.bind (finG x) fun (r0 : Bool) => (bif r0 then (some (fge x (Fl.of .f32 0))) else (some (false)))
theorem t_least (x : Fl .f32) : (fnT Γ_least 10 160 [F32] [.bool] x).den = d_least x := by kernel_rfl
theorem p_least (x : Fl .f32) (r : Bool) (h : leastG x = some r) : d_least x = some r := by
  refine Eq.trans ?_ h
  unfold d_least leastG leastB finG
  cases fin x <;> rfl
theorem s_least : FTold Try.prog 160 leastS := walkedF (fs := fs) (ss := ss_least) (loop := loops_least) tysOk mixed fnsOk ssOk_least 10 160 [F32] [.bool] rfl _ fun x r h => (t_least x).trans (p_least x r h)
def vfP (x : FieldT) : Prop := ((1 ≤ x.1 ∧ x.1 ≤ 16) ∧ 1 ≤ x.2.1 ∧ x.2.1 ≤ 16) ∧ (x.2.2.2.length : Int) = x.1 * x.2.1
open Classical in
noncomputable def vfG (x : FieldT) : Option Bool := if x.2.2.2.length < 2 ^ 62 then some (decide (vfP x)) else none
noncomputable def vfS : FSpec := ⟨[FieldD], [.bool], vfG⟩
noncomputable def vfPG (x : FieldT) : Option Bool := vfG x
noncomputable def vfPS : FSpec := ⟨[.ptr FieldD], [.bool], vfPG⟩
open Classical in
theorem vf_some {x : FieldT} {r : Bool} (h : vfG x = some r) : x.2.2.2.length < 2 ^ 62 ∧ (r = true ↔ vfP x) := by
  obtain ⟨h1, rfl⟩ := if_some (show (if x.2.2.2.length < 2 ^ 62 then some (decide (vfP x)) else none) = some r from h)
  exact ⟨h1, decide_eq_true_iff⟩
open Classical in
theorem vf_ex {x : FieldT} (h : x.2.2.2.length < 2 ^ 62) : ∃ b, vfG x = some b ∧ (b = true ↔ vfP x) := ⟨_, if_pos h, decide_eq_true_iff⟩
theorem prod_in {p q : Int} (h : (1 ≤ p ∧ p ≤ 16) ∧ 1 ≤ q ∧ q ≤ 16) : IntKind.i64.wrap (p * q) = p * q := by
  have a : 0 ≤ p * q := Int.mul_nonneg (by omega) (by omega)
  have b : p * q ≤ 16 * q := Int.mul_le_mul_of_nonneg_right (by omega) (by omega)
  exact wrap64 (by omega) (by omega)
def loops_VFI (_ _ _ : Nat) : Option LSpec := none
noncomputable def ss_VFI : List (Nat × FSpec) := [(128, areS)]
theorem ssOk_VFI : FTolds Try.prog ss_VFI := ⟨s_areWithin, trivial⟩
noncomputable def Γ_VFI : Ctx := ctxOf Try.prog tys fs ss_VFI loops_VFI
noncomputable def d_VFI (w1 : Int) (h1 : Int) (o1 : Bool) (v1 : LS) : Option (Bool) := Option.bind (areG (1, 16, sub [w1, h1] 0 2)) fun (r0 : Bool) => (bif r0 then (some (((List.length v1 : Nat) : Int) == IntKind.i64.wrap (w1 * h1))) else (some (false)))
theorem t_VFI (w1 : Int) (h1 : Int) (o1 : Bool) (v1 : LS) : (fnT Γ_VFI 10 122 [FieldD] [.bool] (w1, h1, o1, v1)).den = d_VFI w1 h1 o1 v1 := by kernel_rfl
theorem p_VFI (w1 : Int) (h1 : Int) (o1 : Bool) (v1 : LS) (r : Bool) (h : vfG (w1, h1, o1, v1) = some r) : d_VFI w1 h1 o1 v1 = some r := by
  obtain ⟨hb, hr⟩ := vf_some h
  have k : areG (1, 16, sub [w1, h1] 0 2) = some (areB 1 16 [w1, h1]) := if_pos (show [w1, h1].length < 2 ^ 62 by simp)
  unfold d_VFI
  simp only [k, Option.bind_some]
  exact tree_iff (bif_iffd (size_iff w1 h1) (fun hs => by rw [prod_in hs]; exact end_iff (beq_iff _ _))) hr Iff.rfl
theorem s_VFI : FTold Try.prog 122 vfS := walkedF (fs := fs) (ss := ss_VFI) (loop := loops_VFI) tysOk mixed fnsOk ssOk_VFI 10 122 [FieldD] [.bool] rfl _ fun (w1, h1, o1, v1) r h => (t_VFI w1 h1 o1 v1).trans (p_VFI w1 h1 o1 v1 r h)
def loops_VFS (_ _ _ : Nat) : Option LSpec := none
noncomputable def ss_VFS : List (Nat × FSpec) := [(131, sizeS)]
theorem ssOk_VFS : FTolds Try.prog ss_VFS := ⟨s_l02Size, trivial⟩
noncomputable def Γ_VFS : Ctx := ctxOf Try.prog tys fs ss_VFS loops_VFS
noncomputable def d_VFS (w1 : Int) (h1 : Int) (o1 : Bool) (v1 : LS) : Option (Bool) := Option.bind (sizeG (w1, h1)) fun (r0 : Bool) => (bif r0 then (some (((List.length v1 : Nat) : Int) == IntKind.i64.wrap (w1 * h1))) else (some (false)))
theorem t_VFS (w1 : Int) (h1 : Int) (o1 : Bool) (v1 : LS) : (fnT Γ_VFS 10 159 [.ptr FieldD] [.bool] (w1, h1, o1, v1)).den = d_VFS w1 h1 o1 v1 := by kernel_rfl
theorem p_VFS (w1 : Int) (h1 : Int) (o1 : Bool) (v1 : LS) (r : Bool) (h : vfPG (w1, h1, o1, v1) = some r) : d_VFS w1 h1 o1 v1 = some r := by
  obtain ⟨hb, hr⟩ := vf_some h
  unfold d_VFS sizeG
  simp only [Option.bind_some]
  exact tree_iff (bif_iffd (size_iff w1 h1) (fun hs => by rw [prod_in hs]; exact end_iff (beq_iff _ _))) hr Iff.rfl
theorem s_VFS : FTold Try.prog 159 vfPS := walkedF (fs := fs) (ss := ss_VFS) (loop := loops_VFS) tysOk mixed fnsOk ssOk_VFS 10 159 [.ptr FieldD] [.bool] rfl _ fun (w1, h1, o1, v1) r h => (t_VFS w1 h1 o1 v1).trans (p_VFS w1 h1 o1 v1 r h)
def finFG (x : FieldT) : Option Bool := if x.2.2.2.length < 2 ^ 62 then some (x.2.2.2.all fin) else none
def finFS : FSpec := ⟨[FieldD], [.bool], finFG⟩
def loops_finF (_ _ _ : Nat) : Option LSpec := none
noncomputable def ss_finF : List (Nat × FSpec) := [(72, allFinS)]
theorem ssOk_finF : FTolds Try.prog ss_finF := ⟨s_areFinite, trivial⟩
noncomputable def Γ_finF : Ctx := ctxOf Try.prog tys fs ss_finF loops_finF
noncomputable def d_finF (w1 : Int) (h1 : Int) (o1 : Bool) (v1 : LS) : Option (Bool) := Option.bind (allFinG (sub v1 0 (List.length v1))) fun (r0 : Bool) => (some (r0))
theorem t_finF (w1 : Int) (h1 : Int) (o1 : Bool) (v1 : LS) : (fnT Γ_finF 10 124 [FieldD] [.bool] (w1, h1, o1, v1)).den = d_finF w1 h1 o1 v1 := by kernel_rfl
theorem p_finF (w1 : Int) (h1 : Int) (o1 : Bool) (v1 : LS) (r : Bool) (h : finFG (w1, h1, o1, v1) = some r) : d_finF w1 h1 o1 v1 = some r := by
  obtain ⟨hb, rfl⟩ := if_some (show (if v1.length < 2 ^ 62 then some (v1.all fin) else none) = some r from h)
  have k : allFinG v1 = some (v1.all fin) := if_pos hb
  unfold d_finF
  simp only [sub_all, k, Option.bind_some]
theorem s_finF : FTold Try.prog 124 finFS := walkedF (fs := fs) (ss := ss_finF) (loop := loops_finF) tysOk mixed fnsOk ssOk_finF 10 124 [FieldD] [.bool] rfl _ fun (w1, h1, o1, v1) r h => (t_finF w1 h1 o1 v1).trans (p_finF w1 h1 o1 v1 r h)
def vgP (x : GrT) : Prop := (((1 ≤ x.1 ∧ x.1 ≤ 16) ∧ 1 ≤ x.2.1 ∧ x.2.1 ≤ 16) ∧ (x.2.2.length : Int) = x.1 * x.2.1) ∧ areB 0 63 x.2.2 = true
open Classical in
noncomputable def vgG (x : GrT) : Option Bool := if x.2.2.length < 2 ^ 62 then some (decide (vgP x)) else none
noncomputable def vgS : FSpec := ⟨[GrD], [.bool], vgG⟩
noncomputable def vgPG (x : GrT) : Option Bool := vgG x
noncomputable def vgPS : FSpec := ⟨[.ptr GrD], [.bool], vgPG⟩
open Classical in
theorem vg_some {x : GrT} {r : Bool} (h : vgG x = some r) : x.2.2.length < 2 ^ 62 ∧ (r = true ↔ vgP x) := by
  obtain ⟨h1, rfl⟩ := if_some (show (if x.2.2.length < 2 ^ 62 then some (decide (vgP x)) else none) = some r from h)
  exact ⟨h1, decide_eq_true_iff⟩
open Classical in
theorem vg_ex {x : GrT} (h : x.2.2.length < 2 ^ 62) : ∃ b, vgG x = some b ∧ (b = true ↔ vgP x) := ⟨_, if_pos h, decide_eq_true_iff⟩
def loops_VGI (_ _ _ : Nat) : Option LSpec := none
noncomputable def ss_VGI : List (Nat × FSpec) := [(128, areS)]
theorem ssOk_VGI : FTolds Try.prog ss_VGI := ⟨s_areWithin, trivial⟩
noncomputable def Γ_VGI : Ctx := ctxOf Try.prog tys fs ss_VGI loops_VGI
noncomputable def d_VGI (gw : Int) (gh : Int) (gl : LI) : Option (Bool) := Option.bind (areG (1, 16, sub [gw, gh] 0 2)) fun (r0 : Bool) => (bif r0 then (bif ((List.length gl : Nat) : Int) == IntKind.i64.wrap (gw * gh) then (Option.bind (areG (0, 63, sub gl 0 (List.length gl))) fun (r1 : Bool) => (some (r1))) else (some (false))) else (some (false)))
theorem t_VGI (gw : Int) (gh : Int) (gl : LI) : (fnT Γ_VGI 10 57 [GrD] [.bool] (gw, gh, gl)).den = d_VGI gw gh gl := by kernel_rfl
theorem p_VGI (gw : Int) (gh : Int) (gl : LI) (r : Bool) (h : vgG (gw, gh, gl) = some r) : d_VGI gw gh gl = some r := by
  obtain ⟨hb, hr⟩ := vg_some h
  have k : areG (1, 16, sub [gw, gh] 0 2) = some (areB 1 16 [gw, gh]) := if_pos (show [gw, gh].length < 2 ^ 62 by simp)
  have k2 : areG (0, 63, gl) = some (areB 0 63 gl) := if_pos hb
  unfold d_VGI
  simp only [sub_all, k, k2, Option.bind_some]
  exact tree_iff (bif_iffd (size_iff gw gh) (fun hs => by rw [prod_in hs]; exact bif_iff (beq_iff _ _) (end_iff Iff.rfl))) hr (and_assoc)
theorem s_VGI : FTold Try.prog 57 vgS := walkedF (fs := fs) (ss := ss_VGI) (loop := loops_VGI) tysOk mixed fnsOk ssOk_VGI 10 57 [GrD] [.bool] rfl _ fun (gw, gh, gl) r h => (t_VGI gw gh gl).trans (p_VGI gw gh gl r h)
def lab1G (x : Int) : Option Bool := some (decide (0 ≤ x) && decide (x ≤ 63))
def lab1S : FSpec := ⟨[I64], [.bool], lab1G⟩
def loops_label (_ _ _ : Nat) : Option LSpec := none
noncomputable def ss_label : List (Nat × FSpec) := [(82, withinS)]
theorem ssOk_label : FTolds Try.prog ss_label := ⟨s_l00In, trivial⟩
noncomputable def Γ_label : Ctx := ctxOf Try.prog tys fs ss_label loops_label
noncomputable def d_label (x : Int) : Option (Bool) := Option.bind (withinG (x, 0, 63)) fun (r0 : Bool) => (some (r0))
theorem t_label (x : Int) : (fnT Γ_label 10 132 [I64] [.bool] x).den = d_label x := by kernel_rfl
theorem p_label (x : Int) (r : Bool) (h : lab1G x = some r) : d_label x = some r := by
  exact h
theorem s_label : FTold Try.prog 132 lab1S := walkedF (fs := fs) (ss := ss_label) (loop := loops_label) tysOk mixed fnsOk ssOk_label 10 132 [I64] [.bool] rfl _ fun x r h => (t_label x).trans (p_label x r h)
def L_VGS_1 : LSpec := ⟨[0, 3], ⟨Shs.at 49 [(0, (.ptr 2 0 0)), (3, (.int IntKind.i64))], [(2, (.vals false (.cons (.int IntKind.i64) (.cons (.int IntKind.i64) (.cons (.slc 3) .nil))))), (3, (.arr false (EK.int IntKind.i64)))]⟩, [⟨.ret, [2], ⟨Shs.at 49 [(2, .bool)], [(2, (.vals false (.cons (.int IntKind.i64) (.cons (.int IntKind.i64) (.cons (.slc 3) .nil))))), (3, (.arr false (EK.int IntKind.i64)))]⟩⟩, ⟨.ext 0, [], ⟨Shs.at 49 [], [(2, (.vals false (.cons (.int IntKind.i64) (.cons (.int IntKind.i64) (.cons (.slc 3) .nil))))), (3, (.arr false (EK.int IntKind.i64)))]⟩⟩], fun _ => bigN⟩
def loops_VGS (f k n : Nat) : Option LSpec := bif (Nat.beq f 120 && Nat.beq k 4 && Nat.beq n 1) then some L_VGS_1 else none
abbrev S_VGS_1 : Type := ((Int × Unit) × ((Int × (Int × (Nat × Unit))) × ((List Int) × Unit)))
abbrev R_VGS_1 : Type := (((Bool × Unit) × ((Int × (Int × (Nat × Unit))) × ((List Int) × Unit))) ⊕ (Unit × ((Int × (Int × (Nat × Unit))) × ((List Int) × Unit))))
noncomputable def B_VGS_1 (y : S_VGS_1) : Option (S_VGS_1 ⊕ R_VGS_1) := bif decide (y.1.1 < (y.2.1.2.2.1 : Int)) then (bif inB y.1.1 y.2.1.2.2.1 then (Option.bind (lab1G (List.getD y.2.2.1 (0 + Int.toNat y.1.1) (0 : Int))) fun (r2 : Bool) => (bif !r2 then (some (Sum.inr (Sum.inl (((false, ()), ((y.2.1.1, (y.2.1.2.1, (y.2.1.2.2.1, ()))), (y.2.2.1, ()))))))) else (some (Sum.inl (((IntKind.i64.wrap (y.1.1 + 1), ()), ((y.2.1.1, (y.2.1.2.1, (y.2.1.2.2.1, ()))), (y.2.2.1, ())))))))) else (none)) else (some (Sum.inr (Sum.inr (((), ((y.2.1.1, (y.2.1.2.1, (y.2.1.2.2.1, ()))), (y.2.2.1, ())))))))
noncomputable def ss_VGS : List (Nat × FSpec) := [(131, sizeS), (132, lab1S)]
theorem ssOk_VGS : FTolds Try.prog ss_VGS := ⟨s_l02Size, s_label, trivial⟩
noncomputable def Γ_VGS : Ctx := ctxOf Try.prog tys fs ss_VGS loops_VGS
noncomputable def d_VGS (gw : Int) (gh : Int) (gl : LI) : Option (Bool) := Option.bind (sizeG (gw, gh)) fun (r0 : Bool) => (bif !r0 then (some (false)) else (bif ((List.length gl : Nat) : Int) != IntKind.i64.wrap (gw * gh) then (some (false)) else (Option.bind (iter B_VGS_1 bigN (((0, ()), ((gw, (gh, (List.length gl, ()))), (gl, ()))))) fun (r1 : (((Bool × Unit) × ((Int × (Int × (Nat × Unit))) × ((List Int) × Unit))) ⊕ (Unit × ((Int × (Int × (Nat × Unit))) × ((List Int) × Unit))))) => (match r1 with | .inl x3 => (some (x3.1.1)) | .inr x3 => (some (true))))))
theorem t_VGS (gw : Int) (gh : Int) (gl : LI) : (fnT Γ_VGS 10 120 [.ptr GrD] [.bool] (gw, gh, gl)).den = d_VGS gw gh gl := by kernel_rfl
theorem p_VGS (gw : Int) (gh : Int) (gl : LI) (r : Bool) (h : vgPG (gw, gh, gl) = some r) : d_VGS gw gh gl = some r := by
  obtain ⟨hb, hr⟩ := vg_some h
  unfold d_VGS sizeG
  simp only [Option.bind_some]
  refine tree_iff (bifn_iffd (size_iff gw gh) (fun hs => ?_)) hr and_assoc
  rw [prod_in hs]
  refine bne_iffd (fun hl => ?_)
  have key := iter_find' (B := B_VGS_1) (fun i => (((i : Int), ()), ((gw, (gh, (gl.length, ()))), (gl, ())))) 0 gl.length (fun i => if (decide (0 ≤ gl.getD i 0) && decide (gl.getD i 0 ≤ 63)) = true then none else some (.inl ((false, ()), ((gw, (gh, (gl.length, ()))), (gl, ()))))) (.inr ((), ((gw, (gh, (gl.length, ()))), (gl, ())))) (Nat.zero_le _) hb (fun i _ hi => by
    have hi' : i < gl.length := hi
    have hb' : gl.length < 2 ^ 62 := hb
    unfold B_VGS_1 lab1G
    simp only [ltT hi', inB_of hi', inc64 hi' hb', cond_true, Int.toNat_natCast, Nat.zero_add, Option.bind_some]
    by_cases e : (decide (0 ≤ gl.getD i 0) && decide (gl.getD i 0 ≤ 63)) = true
    · rw [if_pos e, e]; rfl
    · rw [if_neg e, Bool.eq_false_iff.2 e]; rfl) (by
    unfold B_VGS_1
    simp only [ltF, cond_false])
  rcases firstOf_const (fun i => (decide (0 ≤ gl.getD i 0) && decide (gl.getD i 0 ≤ 63))) (.inl ((false, ()), ((gw, (gh, (gl.length, ()))), (gl, ()))) : R_VGS_1) (gl.length - 0) 0 with ⟨q, hall⟩ | ⟨q, j, _, hj, hbad⟩
  · refine ⟨true, ?_, ⟨fun _ => are_yes (fun i hi => hall i (Nat.zero_le _) (by have : i < gl.length := hi; omega)), fun _ => rfl⟩⟩
    refine (congrArg (fun z => Option.bind z _) (show iter B_VGS_1 bigN _ = _ from key)).trans ?_
    rw [q]; rfl
  · refine ⟨false, ?_, ⟨fun e => absurd e (by decide), fun e => by rw [are_no (i := j) (by omega) hbad] at e; cases e⟩⟩
    refine (congrArg (fun z => Option.bind z _) (show iter B_VGS_1 bigN _ = _ from key)).trans ?_
    rw [q]; rfl
theorem s_VGS : FTold Try.prog 120 vgPS := walkedF (fs := fs) (ss := ss_VGS) (loop := loops_VGS) tysOk mixed fnsOk ssOk_VGS 10 120 [.ptr GrD] [.bool] rfl _ fun (gw, gh, gl) r h => (t_VGS gw gh gl).trans (p_VGS gw gh gl r h)
def vkP (x : FlT) : Prop := (3 ≤ x.1 ∧ x.1 ≤ 16) ∧ (x.2.length : Int) = x.1 * x.1 ∧ x.2.all fin = true
open Classical in
noncomputable def vkG (x : FlT) : Option Bool := if x.2.length < 2 ^ 62 then some (decide (vkP x)) else none
noncomputable def vkS : FSpec := ⟨[FlD], [.bool], vkG⟩
noncomputable def vkPG (x : FlT) : Option Bool := vkG x
noncomputable def vkPS : FSpec := ⟨[.ptr FlD], [.bool], vkPG⟩
open Classical in
theorem vk_some {x : FlT} {r : Bool} (h : vkG x = some r) : x.2.length < 2 ^ 62 ∧ (r = true ↔ vkP x) := by
  obtain ⟨h1, rfl⟩ := if_some (show (if x.2.length < 2 ^ 62 then some (decide (vkP x)) else none) = some r from h)
  exact ⟨h1, decide_eq_true_iff⟩
open Classical in
theorem vk_ex {x : FlT} (h : x.2.length < 2 ^ 62) : ∃ b, vkG x = some b ∧ (b = true ↔ vkP x) := ⟨_, if_pos h, decide_eq_true_iff⟩
theorem allf_yes {l : LS} (h : ∀ i, i < l.length → fin (l.getD i dN) = true) : l.all fin = true :=
  List.all_eq_true.2 fun x hx => by
    obtain ⟨j, hj, rfl⟩ := List.getElem_of_mem hx
    have := h j hj
    simpa [List.getD_eq_getElem?_getD, hj] using this
theorem allf_no {l : LS} {i : Nat} (hi : i < l.length) (h : fin (l.getD i dN) = false) : l.all fin = false := by
  rw [List.all_eq_false]
  refine ⟨l[i], List.getElem_mem _, ?_⟩
  simpa [List.getD_eq_getElem?_getD, hi] using h
def loops_VKI (_ _ _ : Nat) : Option LSpec := none
noncomputable def ss_VKI : List (Nat × FSpec) := [(85, withinS), (72, allFinS)]
theorem ssOk_VKI : FTolds Try.prog ss_VKI := ⟨s_within, s_areFinite, trivial⟩
noncomputable def Γ_VKI : Ctx := ctxOf Try.prog tys fs ss_VKI loops_VKI
noncomputable def d_VKI (sd : Int) (sv : LS) : Option (Bool) := Option.bind (withinG (sd, 3, 16)) fun (r0 : Bool) => (bif r0 then (bif ((List.length sv : Nat) : Int) == IntKind.i64.wrap (sd * sd) then (Option.bind (allFinG (sub sv 0 (List.length sv))) fun (r1 : Bool) => (some (r1))) else (some (false))) else (some (false)))
theorem t_VKI (sd : Int) (sv : LS) : (fnT Γ_VKI 10 58 [FlD] [.bool] (sd, sv)).den = d_VKI sd sv := by kernel_rfl
theorem p_VKI (sd : Int) (sv : LS) (r : Bool) (h : vkG (sd, sv) = some r) : d_VKI sd sv = some r := by
  obtain ⟨hb, hr⟩ := vk_some h
  have k2 : allFinG sv = some (sv.all fin) := if_pos hb
  unfold d_VKI withinG
  simp only [sub_all, k2, Option.bind_some]
  exact tree_iff (bif_iffd and2 (fun hs => by rw [prod_in ⟨⟨by omega, hs.2⟩, by omega, hs.2⟩]; exact bif_iff (beq_iff _ _) (end_iff Iff.rfl))) hr Iff.rfl
theorem s_VKI : FTold Try.prog 58 vkS := walkedF (fs := fs) (ss := ss_VKI) (loop := loops_VKI) tysOk mixed fnsOk ssOk_VKI 10 58 [FlD] [.bool] rfl _ fun (sd, sv) r h => (t_VKI sd sv).trans (p_VKI sd sv r h)
def L_VKS_1 : LSpec := ⟨[0, 3], ⟨Shs.at 45 [(0, (.ptr 2 0 0)), (3, (.int IntKind.i64))], [(2, (.vals false (.cons (.int IntKind.i64) (.cons (.slc 3) .nil)))), (3, (.arr false (EK.flt FloatKind.f32)))]⟩, [⟨.ret, [2], ⟨Shs.at 45 [(2, .bool)], [(2, (.vals false (.cons (.int IntKind.i64) (.cons (.slc 3) .nil)))), (3, (.arr false (EK.flt FloatKind.f32)))]⟩⟩, ⟨.ext 0, [], ⟨Shs.at 45 [], [(2, (.vals false (.cons (.int IntKind.i64) (.cons (.slc 3) .nil)))), (3, (.arr false (EK.flt FloatKind.f32)))]⟩⟩], fun _ => bigN⟩
def loops_VKS (f k n : Nat) : Option LSpec := bif (Nat.beq f 80 && Nat.beq k 4 && Nat.beq n 1) then some L_VKS_1 else none
abbrev S_VKS_1 : Type := ((Int × Unit) × ((Int × (Nat × Unit)) × ((List (Fl .f32)) × Unit)))
abbrev R_VKS_1 : Type := (((Bool × Unit) × ((Int × (Nat × Unit)) × ((List (Fl .f32)) × Unit))) ⊕ (Unit × ((Int × (Nat × Unit)) × ((List (Fl .f32)) × Unit))))
noncomputable def B_VKS_1 (y : S_VKS_1) : Option (S_VKS_1 ⊕ R_VKS_1) := bif decide (y.1.1 < (y.2.1.2.1 : Int)) then (bif inB y.1.1 y.2.1.2.1 then (Option.bind (finG (List.getD y.2.2.1 (0 + Int.toNat y.1.1) dN)) fun (r2 : Bool) => (bif !r2 then (some (Sum.inr (Sum.inl (((false, ()), ((y.2.1.1, (y.2.1.2.1, ())), (y.2.2.1, ()))))))) else (some (Sum.inl (((IntKind.i64.wrap (y.1.1 + 1), ()), ((y.2.1.1, (y.2.1.2.1, ())), (y.2.2.1, ())))))))) else (none)) else (some (Sum.inr (Sum.inr (((), ((y.2.1.1, (y.2.1.2.1, ())), (y.2.2.1, ())))))))
noncomputable def ss_VKS : List (Nat × FSpec) := [(82, withinS), (81, finS)]
theorem ssOk_VKS : FTolds Try.prog ss_VKS := ⟨s_l00In, s_l01Finite, trivial⟩
noncomputable def Γ_VKS : Ctx := ctxOf Try.prog tys fs ss_VKS loops_VKS
noncomputable def d_VKS (sd : Int) (sv : LS) : Option (Bool) := Option.bind (withinG (sd, 3, 16)) fun (r0 : Bool) => (bif !r0 then (some (false)) else (bif ((List.length sv : Nat) : Int) != IntKind.i64.wrap (sd * sd) then (some (false)) else (Option.bind (iter B_VKS_1 bigN (((0, ()), ((sd, (List.length sv, ())), (sv, ()))))) fun (r1 : (((Bool × Unit) × ((Int × (Nat × Unit)) × ((List (Fl .f32)) × Unit))) ⊕ (Unit × ((Int × (Nat × Unit)) × ((List (Fl .f32)) × Unit))))) => (match r1 with | .inl x3 => (some (x3.1.1)) | .inr x3 => (some (true))))))
theorem t_VKS (sd : Int) (sv : LS) : (fnT Γ_VKS 10 80 [.ptr FlD] [.bool] (sd, sv)).den = d_VKS sd sv := by kernel_rfl
theorem p_VKS (sd : Int) (sv : LS) (r : Bool) (h : vkPG (sd, sv) = some r) : d_VKS sd sv = some r := by
  obtain ⟨hb, hr⟩ := vk_some h
  unfold d_VKS withinG
  simp only [Option.bind_some]
  refine tree_iff (bifn_iffd and2 (fun hs => ?_)) hr Iff.rfl
  rw [prod_in ⟨⟨by omega, hs.2⟩, by omega, hs.2⟩]
  refine bne_iffd (fun hl => ?_)
  have hb' : sv.length < 2 ^ 62 := hb
  have key := iter_find' (B := B_VKS_1) (fun i => (((i : Int), ()), ((sd, (sv.length, ())), (sv, ())))) 0 sv.length (fun i => if fin (sv.getD i dN) = true then none else some (.inl ((false, ()), ((sd, (sv.length, ())), (sv, ()))))) (.inr ((), ((sd, (sv.length, ())), (sv, ())))) (Nat.zero_le _) hb (fun i _ hi => by
    have hi' : i < sv.length := hi
    unfold B_VKS_1 finG
    simp only [ltT hi', inB_of hi', inc64 hi' hb', cond_true, Int.toNat_natCast, Nat.zero_add, Option.bind_some]
    by_cases e : fin (sv.getD i dN) = true
    · rw [if_pos e, e]; rfl
    · rw [if_neg e, Bool.eq_false_iff.2 e]; rfl) (by
    unfold B_VKS_1
    simp only [ltF, cond_false])
  rcases firstOf_const (fun i => fin (sv.getD i dN)) (.inl ((false, ()), ((sd, (sv.length, ())), (sv, ()))) : R_VKS_1) (sv.length - 0) 0 with ⟨q, hall⟩ | ⟨q, j, _, hj, hbad⟩
  · refine ⟨true, ?_, ⟨fun _ => allf_yes (fun i hi => hall i (Nat.zero_le _) (by have : i < sv.length := hi; omega)), fun _ => rfl⟩⟩
    refine (congrArg (fun z => Option.bind z _) (show iter B_VKS_1 bigN _ = _ from key)).trans ?_
    rw [q]; rfl
  · refine ⟨false, ?_, ⟨fun e => absurd e (by decide), fun e => by rw [allf_no (i := j) (by omega) hbad] at e; cases e⟩⟩
    refine (congrArg (fun z => Option.bind z _) (show iter B_VKS_1 bigN _ = _ from key)).trans ?_
    rw [q]; rfl
theorem s_VKS : FTold Try.prog 80 vkPS := walkedF (fs := fs) (ss := ss_VKS) (loop := loops_VKS) tysOk mixed fnsOk ssOk_VKS 10 80 [.ptr FlD] [.bool] rfl _ fun (sd, sv) r h => (t_VKS sd sv).trans (p_VKS sd sv r h)
end Go.Proofs.Ytffbjjngapejbaa
