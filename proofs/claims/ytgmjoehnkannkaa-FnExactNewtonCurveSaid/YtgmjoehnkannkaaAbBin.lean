/-
  Operations that turn no memory. Part 2: operators, conversions.
-/
import Derived.Test.YtgmjoehnkannkaaAbOps
namespace Go.Ab
open Go.RowKit

theorem den_ifb {α : Type} {b : Bool} {t : T α} {r : α} (h : (T.ifb b t).den = some r) : b = true ∧ t.den = some r := by
  cases b
  · simp [T.ifb, T.den] at h
  · exact ⟨rfl, by simpa [T.ifb, T.den] using h⟩

theorem den_ret {α : Type} {a r : α} (h : (T.ret a).den = some r) : a = r := by simpa [T.den] using h

theorem den_bind {α β : Type} : ∀ (t : T α) (k : α → T β), (t.bind k).den = t.den.bind fun a => (k a).den
  | .fail, _ => rfl
  | .ret _, _ => rfl
  | .node b t f, k => by
    cases b
    · exact den_bind f k
    · exact den_bind t k
  | .bnd o j, k => by
    cases o with
    | none => rfl
    | some x => exact den_bind (j x) k
  | .cas r j l, k => by
    cases r with
    | inl x => exact den_bind (j x) k
    | inr x => exact den_bind (l x) k
  | .miss _, _ => rfl

theorem den_bind_some {α β : Type} {t : T α} {k : α → T β} {r : β} (h : (t.bind k).den = some r) : ∃ a, t.den = some a ∧ (k a).den = some r := by
  rw [den_bind] at h
  cases ht : t.den with
  | none => rw [ht] at h; cases h
  | some a => rw [ht] at h; exact ⟨a, rfl, h⟩

theorem den_bnd {α β : Type} {o : Option β} {k : β → T α} {r : α} (h : (T.bnd o k).den = some r) : ∃ x, o = some x ∧ (k x).den = some r := by
  cases o with
  | none => simp [T.den] at h
  | some x => exact ⟨x, rfl, by simpa [T.den] using h⟩

theorem den_opt {α : Type} {o : Option α} {r : α} (h : (T.opt o).den = some r) : o = some r := by
  cases o with
  | none => simp [T.opt, T.den] at h
  | some x => rw [den_ret h]

theorem den_fail {α : Type} {r : α} (h : (T.fail : T α).den = some r) : False := by simp [T.den] at h

/-- A run that ends in the world it began in, but for draws. -/
def RunsTo {α : Type} (P : Program) (s : Sem α) (w : World) (R : α → Prop) : Prop := ∃ u n, s.run P w = .ok u { w with drawn := n } ∧ R u

theorem RunsTo.of {α : Type} {P : Program} {s : Sem α} {w : World} {R : α → Prop} {u : α} (h : s.run P w = .ok u w) (hr : R u) : RunsTo P s w R := ⟨u, w.drawn, h, hr⟩

theorem RunsTo.bind {α β : Type} {P : Program} {s : Sem α} {f : α → Sem β} {w : World} {R : α → Prop} {R' : β → Prop}
    (h : RunsTo P s w R) (hf : ∀ u, R u → ∀ n, RunsTo P (f u) { w with drawn := n } R') : RunsTo P (s >>= f) w R' := by
  obtain ⟨u, n, e, hr⟩ := h
  obtain ⟨u', n', e', hr'⟩ := hf u hr n
  exact ⟨u', n', by rw [Sem.run_bind, e]; exact e', hr'⟩

section
variable {P : Program} {β : Bt}

theorem shN_eq (k : IntKind) (y : Int) : shN k y = min y.toNat k.bits := rfl

theorem run_underlying' {P : Program} {w : World} {t : Nat} {d : TypeDesc} (h : P.underlying t = some d) : (underlying t).run P w = .ok d w := run_underlying h w

theorem binInt_run (op : BinOp) (hs : op ≠ .shl ∧ op ≠ .shr) (k : IntKind) (x y : Int) (yo : Operand) (v : AV) (xt : Nat) (w : World)
    (hz : ∀ z, isZeroConst yo = some z → z = (y == 0)) (he : (binInt op k x y yo).den = some v) :
    ∃ u, (binOp op xt (.int k x) (.int k y)).run P w = .ok u w ∧ VRep β v u := by
  cases op <;> simp only [binInt] at he <;> first | exact absurd rfl hs.1 | exact absurd rfl hs.2 | skip
  case add => rw [← den_ret he]; exact ⟨_, by simp [binOp, Op.intArith], .int _ _⟩
  case sub => rw [← den_ret he]; exact ⟨_, by simp [binOp, Op.intArith], .int _ _⟩
  case mul => rw [← den_ret he]; exact ⟨_, by simp [binOp, Op.intArith], .int _ _⟩
  case quo =>
    have hy : y ≠ 0 ∧ v = .int k (k.wrap (x.tdiv y)) := by
      split at he
      · exact (den_fail he).elim
      · rename_i h; exact ⟨by have := hz _ h; simpa using this, (den_ret he).symm⟩
      · obtain ⟨h1, h2⟩ := den_ifb he; exact ⟨by simpa using h1, (den_ret h2).symm⟩
    rw [hy.2]
    exact ⟨_, by simp [binOp, Op.intDiv, hy.1], .int _ _⟩
  case rem =>
    have hy : y ≠ 0 ∧ v = .int k (x.tmod y) := by
      split at he
      · exact (den_fail he).elim
      · rename_i h; exact ⟨by have := hz _ h; simpa using this, (den_ret he).symm⟩
      · obtain ⟨h1, h2⟩ := den_ifb he; exact ⟨by simpa using h1, (den_ret h2).symm⟩
    rw [hy.2]
    exact ⟨_, by simp [binOp, Op.intDiv, hy.1], .int _ _⟩
  case and => rw [← den_ret he]; exact ⟨_, by simp [binOp, Op.intBits, ibits], .int _ _⟩
  case or => rw [← den_ret he]; exact ⟨_, by simp [binOp, Op.intBits, ibits], .int _ _⟩
  case xor => rw [← den_ret he]; exact ⟨_, by simp [binOp, Op.intBits, ibits], .int _ _⟩
  case andNot => rw [← den_ret he]; exact ⟨_, by simp [binOp, Op.intBits, ibits], .int _ _⟩
  case eql => rw [← den_ret he]; exact ⟨_, by simp [binOp, Op.intCmp], .bs _⟩
  case neq => rw [← den_ret he]; exact ⟨_, by simp [binOp, Op.intCmp], .bs _⟩
  case lss => rw [← den_ret he]; exact ⟨_, by simp [binOp, Op.intCmp], .bs _⟩
  case leq => rw [← den_ret he]; exact ⟨_, by simp [binOp, Op.intCmp], .bs _⟩
  case gtr => rw [← den_ret he]; exact ⟨_, by simp [binOp, Op.intCmp], .bs _⟩
  case geq => rw [← den_ret he]; exact ⟨_, by simp [binOp, Op.intCmp], .bs _⟩

theorem binOp_float (op : BinOp) (hs : op ≠ .shl ∧ op ≠ .shr) (k : FloatKind) (a b : Nat) (xt : Nat) : binOp op xt (.float k a) (.float k b) = match op with | .add | .sub | .mul | .quo => Op.floatArith op k a b | _ => Op.floatCmp op k a b := by
  cases op <;> first | exact absurd rfl hs.1 | exact absurd rfl hs.2 | simp [binOp]

theorem binFlt_run (op : BinOp) (hs : op ≠ .shl ∧ op ≠ .shr) (k : FloatKind) (x y : Fl k) (a b : Nat) (hx : x.Is a) (hy : y.Is b) (v : AV) (xt : Nat) (w : World) (he : (binFlt op k x y).den = some v) :
    RunsTo P (binOp op xt (.float k a) (.float k b)) w (VRep β v) := by
  rw [binOp_float op hs]
  have hord := order_is hx hy
  cases op <;> simp only [binFlt] at he <;> first | exact absurd rfl hs.1 | exact absurd rfl hs.2 | exact (den_fail he).elim | skip
  case add =>
    obtain ⟨r, n, h1, h2⟩ := run_floatArith_is (P := P) .add (.inl rfl) hx hy w
    rw [← den_ret he]; exact ⟨_, n, h1, .flt _ _ _ h2⟩
  case sub =>
    obtain ⟨r, n, h1, h2⟩ := run_floatArith_is (P := P) .sub (.inr (.inl rfl)) hx hy w
    rw [← den_ret he]; exact ⟨_, n, h1, .flt _ _ _ h2⟩
  case mul =>
    obtain ⟨r, n, h1, h2⟩ := run_floatArith_is (P := P) .mul (.inr (.inr (.inl rfl))) hx hy w
    rw [← den_ret he]; exact ⟨_, n, h1, .flt _ _ _ h2⟩
  case quo =>
    obtain ⟨r, n, h1, h2⟩ := run_floatArith_is (P := P) .quo (.inr (.inr (.inr rfl))) hx hy w
    rw [← den_ret he]; exact ⟨_, n, h1, .flt _ _ _ h2⟩
  case eql => rw [← den_ret he]; refine RunsTo.of (u := .bool (feq x y)) ?_ (.bs _); simp [Op.floatCmp, hord, feq]
  case neq => rw [← den_ret he]; refine RunsTo.of (u := .bool (fne x y)) ?_ (.bs _); simp [Op.floatCmp, hord, fne]
  case lss => rw [← den_ret he]; refine RunsTo.of (u := .bool (Go.Ab.flt x y)) ?_ (.bs _); simp [Op.floatCmp, hord, Go.Ab.flt]
  case leq => rw [← den_ret he]; refine RunsTo.of (u := .bool (fle x y)) ?_ (.bs _); simp [Op.floatCmp, hord, fle]
  case gtr => rw [← den_ret he]; refine RunsTo.of (u := .bool (fgt x y)) ?_ (.bs _); simp [Op.floatCmp, hord, fgt]
  case geq => rw [← den_ret he]; refine RunsTo.of (u := .bool (fge x y)) ?_ (.bs _); simp [Op.floatCmp, hord, fge]

theorem run_carith_is (op : BinOp) (hop : op = .add ∨ op = .sub ∨ op = .mul ∨ op = .quo) {k : FloatKind} {x y : Fl k} {a b : Nat} (hx : x.Is a) (hy : y.Is b) (w : World) :
    RunsTo P (Op.Complex.arith op k a b) w (Fl.res k (floatBits op k x.bits y.bits)).Is := by
  obtain ⟨r, n, h1, h2⟩ := run_floatArith_is (P := P) op hop hx hy w
  exact ⟨r, n, by simp [Op.Complex.arith, h1], h2⟩

/-- What the bool type's '==' reckons. -/
theorem run_equal_bool {xt : Nat} (ht : P.underlying xt = some .bool) (x y : Bool) (w : World) : (Op.equal xt (.bool x) (.bool y)).run P w = .ok (x == y) w := by
  unfold Op.equal
  show (Op.equalIn (9999 + 1) xt (.bool x) (.bool y)).run P w = _
  unfold Op.equalIn
  simp [run_underlying ht]

end

structure SpecOk (P : Program) (f : Nat) (s : FSpec) : Prop where
  dummy : True

/-- The evaluator's tables are the program's. -/
structure TysOk (P : Program) (Γ : Ctx) : Prop where
  ty : ∀ t i, Γ.ty t = some i → TyOk P t i

theorem TysOk.bool {P : Program} {Γ : Ctx} (h : TysOk P Γ) {t : Nat} (hb : isBoolTy Γ t = true) : P.underlying t = some .bool := by
  unfold isBoolTy at hb
  split at hb
  · rename_i e
    obtain ⟨d, h1, h2⟩ := (h.ty _ _ e).und
    cases d <;> simp [DOk] at h2
    exact h1
  · cases hb

theorem binOpA_run {P : Program} {β : Bt} {Γ : Ctx} (hΓ : TysOk P Γ) (op : BinOp) (xt : Nat) (a b : AV) (yo : Operand) (x y : Value) (hx : VRep β a x) (hy : VRep β b y)
    (hz : ∀ z, isZeroConst yo = some z → ∀ k n, y = .int k n → z = (n == 0)) (v : AV) (w : World) (he : (binOpA Γ op xt a b yo).den = some v) :
    RunsTo P (binOp op xt x y) w (VRep β v) ∧ (∀ xo yo' : Operand, (eqGuard op xt xo yo' x y).run P w = .ok () w) := by
  unfold binOpA at he
  split at he
  · -- shl
    cases hx; cases hy
    obtain ⟨h1, h2⟩ := den_ifb he
    rw [← den_ret h2]
    refine ⟨RunsTo.of (u := .int _ _) ?_ (.int _ _), fun _ _ => by simp [eqGuard]⟩
    simp [binOp, Op.shift, Int.not_lt.2 (of_decide_eq_true h1), shN]
  · cases hx; cases hy
    obtain ⟨h1, h2⟩ := den_ifb he
    rw [← den_ret h2]
    refine ⟨RunsTo.of (u := .int _ _) ?_ (.int _ _), fun _ _ => by simp [eqGuard]⟩
    simp [binOp, Op.shift, Int.not_lt.2 (of_decide_eq_true h1), shN]
  · -- ints
    rename_i hn1 hn2
    cases hx; cases hy
    split at he
    · rename_i e; subst e
      obtain ⟨u, h1, h2⟩ := binInt_run (P := P) (β := β) op ⟨hn1, hn2⟩ _ _ _ yo v xt w (fun z hz' => hz z hz' _ _ rfl) he
      exact ⟨RunsTo.of h1 h2, fun _ _ => by simp [eqGuard]⟩
    · exact (den_fail he).elim
  · -- floats
    rename_i hn
    cases hx with
    | flt k x b hx =>
    cases hy with
    | flt k' y b' hy =>
    split at he
    · rename_i e; subst e
      refine ⟨binFlt_run op ?_ _ _ _ _ _ hx hy v xt w he, fun _ _ => by simp [eqGuard]⟩
      constructor
      · rintro rfl; simp [binFlt] at he; exact den_fail he
      · rintro rfl; simp [binFlt] at he; exact den_fail he
    · exact (den_fail he).elim
  · cases hx with
    | cpx k x y a b hx hy' =>
    cases hy with
    | cpx k' z u c d hz' hu =>
    split at he
    · rename_i e; subst e
      refine ⟨?_, fun _ _ => by simp [eqGuard]⟩
      rw [← den_ret he]
      have : ∀ k, binOp .add xt (.complex k a b) (.complex k c d) = (do pure (.complex k (← Op.Complex.arith .add k a c) (← Op.Complex.arith .add k b d))) := fun k => by simp [binOp, Op.complexOp]
      rw [this]
      refine (run_carith_is .add (.inl rfl) hx hz' w).bind fun r hr n => ?_
      refine (run_carith_is .add (.inl rfl) hy' hu _).bind fun r' hr' n' => ?_
      exact RunsTo.of rfl (.cpx _ _ _ _ _ hr hr')
    · exact (den_fail he).elim
  · cases hx with
    | cpx k x y a b hx hy' =>
    cases hy with
    | cpx k' z u c d hz' hu =>
    split at he
    · rename_i e; subst e
      refine ⟨?_, fun _ _ => by simp [eqGuard]⟩
      rw [← den_ret he]
      have : ∀ k, binOp .sub xt (.complex k a b) (.complex k c d) = (do pure (.complex k (← Op.Complex.arith .sub k a c) (← Op.Complex.arith .sub k b d))) := fun k => by simp [binOp, Op.complexOp]
      rw [this]
      refine (run_carith_is .sub (.inr (.inl rfl)) hx hz' w).bind fun r hr n => ?_
      refine (run_carith_is .sub (.inr (.inl rfl)) hy' hu _).bind fun r' hr' n' => ?_
      exact RunsTo.of rfl (.cpx _ _ _ _ _ hr hr')
    · exact (den_fail he).elim
  · cases hx with
    | cpx k x y a b hx hy' =>
    cases hy with
    | cpx k' z u c d hz' hu =>
    split at he
    · rename_i e; subst e
      refine ⟨?_, fun _ _ => by simp [eqGuard]⟩
      rw [← den_ret he]
      refine RunsTo.of (u := .bool _) ?_ (.bs _)
      rw [run_eql_complex, order_is hx hz', order_is hy' hu]; rfl
    · exact (den_fail he).elim
  · cases hx with
    | cpx k x y a b hx hy' =>
    cases hy with
    | cpx k' z u c d hz' hu =>
    split at he
    · rename_i e; subst e
      refine ⟨?_, fun _ _ => by simp [eqGuard]⟩
      rw [← den_ret he]
      refine RunsTo.of (u := .bool _) ?_ (.bs _)
      rw [run_neq_complex, order_is hx hz', order_is hy' hu]; rfl
    · exact (den_fail he).elim
  · cases hx; cases hy
    rename_i p q
    obtain ⟨h1, h2⟩ := den_ifb he
    rw [← den_ret h2]
    refine ⟨RunsTo.of (u := .string _) ?_ (.str _), fun _ _ => by simp [eqGuard]⟩
    have h3 : p.size + q.size ≤ 9223372036854775807 := of_decide_eq_true h1
    have : ¬ (((p.size + q.size : Nat) : Int) > IntKind.i64.max) := by show ¬ ((_ : Int) > 9223372036854775807); omega
    simp only [binOp, Op.stringOp]
    rw [if_neg this]; rfl
  · cases hx; cases hy
    rw [← den_ret he]
    exact ⟨RunsTo.of (u := .bool _) (by simp [binOp, Op.stringOp, strEq]) (.bs _), fun _ _ => by simp [eqGuard]⟩
  · cases hx; cases hy
    rw [← den_ret he]
    exact ⟨RunsTo.of (u := .bool _) (by simp [binOp, Op.stringOp, strEq]) (.bs _), fun _ _ => by simp [eqGuard]⟩
  all_goals first
    | exact (den_fail he).elim
    | (cases hx; cases hy
       rename_i p q
       split at he
       · rename_i hb
         rw [← den_ret he]
         have ht := hΓ.bool hb
         refine ⟨?_, fun _ _ => by simp [eqGuard]⟩
         first
           | (refine RunsTo.of (u := .bool (p == q)) (by simp [binOp, run_equal_bool ht]) ?_; first | exact .bs _ | exact .bl _)
           | (refine RunsTo.of (u := .bool (!(p == q))) (by simp [binOp, run_equal_bool ht]) ?_; first | exact .bs _ | exact .bl _)
       · exact (den_fail he).elim)

end Go.Ab
