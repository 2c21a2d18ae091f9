/-
  Operations that turn no memory: what the machine does is what the evaluator tells. Part 1: the frame of it, arithmetic.
-/
import Derived.Test.YtgmjoehnkannkaaAbRep
import Derived.ChangeKeysEq
import Derived.Laws.ComplexArith
import Derived.WalkKit
namespace Go.Ab
open Go.RowKit

/-! ### Types -/
def DOk : TyD → TypeDesc → Prop
  | .bool, .bool => True
  | .int k, .int k' => k = k'
  | .flt k, .float k' => k = k'
  | .cpx k, .complex k' => k = k'
  | .str, .string => True
  | .slc e, .slice e' => e = e'
  | .arr n e, .array n' e' => n = n' ∧ e = e'
  | .struct fs, .struct fs' => fs = fs'.toList.map fun f => (f.type, f.offset)
  | .ptr e, .pointer e' => e = e'
  | .fn, .func _ _ _ => True
  | _, _ => False

structure TyOk (P : Program) (t : Nat) (i : TyI) : Prop where
  ex : ∃ info, P.info? t = some info ∧ info.size = i.size ∧ info.bytes = i.bytes ∧ ∃ z, info.zero = some z ∧ z.cells.size = i.size ∧ ∀ β, VReps β i.zero z.cells.toList
  und : ∃ d, P.underlying t = some d ∧ DOk i.d d

/-! ### What an operation comes to -/
def OpRes (P : Program) (o : Oper) (a : Act) (w : World) (R : Value → World → Prop) : Prop :=
  match (execOp a.eval o).run P w with
  | .ok (.value u) w' => R u w'
  | .ok .skip w' => R undef w'
  | .ok (.enter f args) w' => Calls P f args w' fun e w'' => ∃ u, e = .returned u ∧ R u w''
  | _ => False

theorem OpRes.mono {P : Program} {o : Oper} {a : Act} {w : World} {R R' : Value → World → Prop} (h : OpRes P o a w R) (hr : ∀ u w', R u w' → R' u w') : OpRes P o a w R' := by
  unfold OpRes at *
  generalize (execOp a.eval o).run P w = r at *
  cases r with
  | halt x w' => exact h.elim
  | ok n w' =>
    cases n
    case value u => exact hr _ _ h
    case skip => exact hr _ _ h
    case enter f args => exact h.mono fun e w'' ⟨u, e1, e2⟩ => ⟨u, e1, hr _ _ e2⟩
    all_goals exact h.elim

theorem OpRes.wp {P : Program} {o : Oper} {a : Act} {w : World} {R : Value → World → Prop} {next : Act → World → Prop} {Q : Exit → Act → World → Prop}
    (h : OpRes P o a w R) (hn : ∀ u w', R u w' → next (a.put o.dst u) w') : o.wp P a w next Q := by
  unfold OpRes at h
  unfold Oper.wp
  generalize (execOp a.eval o).run P w = r at *
  cases r with
  | halt x w' => exact h.elim
  | ok n w' =>
    cases n
    case value u => exact hn _ _ h
    case skip => exact hn _ _ h
    case enter f args => exact h.mono fun e w'' ⟨u, e1, e2⟩ => by subst e1; exact hn _ _ e2
    all_goals exact h.elim

/-- new blocks, each its own -/
structure NewRep (β' : Bt) (d : Heap) (w' : World) (base : Nat) : Prop where
  blk : ∀ n b, hget d n = some b → b.live ∧ b.own = true ∧ ∃ l, β' n = some l ∧ BRep β' w' base l b
  sep : ∀ n m b b' l l', n ≠ m → hget d n = some b → hget d m = some b' → β' n = some l → β' m = some l' → 0 < l.size → 0 < l'.size → l.blk ≠ l'.blk

/-- Behind an operation that turns no memory. -/
def AddPost (β : Bt) (w : World) (v : AV) (d : Heap) (u : Value) (w' : World) : Prop :=
  ∃ β', β.le β' ∧ Below w.heap.size w w' ∧ VRep β' v u ∧ (∀ n, hget d n = none → β' n = β n) ∧ NewRep β' d w' w.heap.size

theorem AddPost.none {β : Bt} {w w' : World} {v : AV} {u : Value} (hb : Below w.heap.size w w') (hv : VRep β v u) : AddPost β w v [] u w' :=
  ⟨β, β.le_refl, hb, hv, fun _ _ => rfl, ⟨fun _ _ h => by simp [hget] at h, fun _ _ _ _ _ _ _ h => by simp [hget] at h⟩⟩

theorem AddPost.same {β : Bt} {w : World} {v : AV} {u : Value} (hv : VRep β v u) : AddPost β w v [] u w := .none (Below.refl _ _) hv

/-- the value of an operation that only reckons, told by its run -/
theorem opRes_value {P : Program} {o : Oper} {a : Act} {w w' : World} {R : Value → World → Prop} {u : Value}
    (h : (execOp a.eval o).run P w = .ok (.value u) w') (hr : R u w') : OpRes P o a w R := by
  unfold OpRes; rw [h]; exact hr

/-! ### Operands -/
theorem ofConst0_rep (β : Bt) (v : Value) (hw : ∀ k b, v = .float k b → b < 2 ^ k.format.width) (hc : ∀ k a b, v = .complex k a b → a < 2 ^ k.format.width ∧ b < 2 ^ k.format.width) : VRep β (ofConst0 v) v := by
  unfold ofConst0
  split
  · exact .bl _
  · exact .int _ _
  · exact .flt _ _ _ (Fl.is_of (hw _ _ rfl))
  · exact .cpx _ _ _ _ _ (Fl.is_of (hc _ _ _ rfl).1) (Fl.is_of (hc _ _ _ rfl).2)
  · exact .str _
  · exact .nilp
  · exact .nils _ _
  · exact .top _

/-- the constants of an operand that are floats fit their kind -/
def constOk0 : Value → Bool
  | .float k b => decide (b < 2 ^ k.format.width)
  | .complex k a b => decide (a < 2 ^ k.format.width) && decide (b < 2 ^ k.format.width)
  | _ => true
def constOk : Value → Bool
  | .agg cs => cs.toList.all constOk0
  | v => constOk0 v
def opndOk : Operand → Bool
  | .const v => constOk v
  | _ => true
def operOk (o : Oper) : Bool := o.op.operands.toList.all opndOk

theorem constOk0_rep (β : Bt) {v : Value} (h : constOk0 v = true) : VRep β (ofConst0 v) v := by
  refine ofConst0_rep β v (fun k b e => ?_) (fun k a b e => ?_)
  · subst e; simpa [constOk0] using h
  · subst e; simpa [constOk0] using h

theorem constOks_rep (β : Bt) : ∀ (l : List Value), l.all constOk0 = true → VReps β (l.map ofConst0) l
  | [], _ => .nil
  | v :: r, h => by
    simp only [List.all_cons, Bool.and_eq_true] at h
    exact .cons _ _ _ _ (constOk0_rep β h.1) (constOks_rep β r h.2)

theorem constOk_rep (β : Bt) {v : Value} (h : constOk v = true) : VRep β (ofConst v) v := by
  cases v with
  | agg cs => exact .agg _ _ (constOks_rep β cs.toList h)
  | slice a n c => exact constOk0_rep β h
  | pointer a => exact constOk0_rep β h
  | bool b => exact .bl b
  | int k n => exact .int k n
  | float k b => exact constOk0_rep (v := .float k b) β h
  | complex k b c => exact constOk0_rep (v := .complex k b c) β h
  | string s => exact .str s
  | _ => exact .top _

theorem opv_rep {β : Bt} {tm : List AV} {a : Act} (ht : VReps β tm a.tmps.toList) (x : Operand) (hx : opndOk x = true) : VRep β (opv tm x) (a.eval x) := by
  cases x with
  | tmp t =>
    have := ht.getD t undef
    simpa [opv, Act.eval, Array.getD_eq_getD_getElem?, List.getD_eq_getElem?_getD] using this
  | const v => exact constOk_rep β hx
  | global g => exact .top _
  | func f => exact .fn _ _ _ _ _ .nil .nil

/-! ### Numbers -/
theorem nanbits_is {k : FloatKind} (q : Question) (hq : (∃ x y, q = .nanBits k x y) ∨ (∃ x, q = .nanConv k x)) (t : Nat) : q.forced = false ∧ (Fl.nan k).Is (q.cut t) := by
  have h : ∀ (f : Nat), nanB k f = true ∧ f < 2 ^ k.format.width → (Fl.nan k).Is f := fun f h => Fl.is_nan h.2 h.1
  rcases hq with ⟨x, y, rfl⟩ | ⟨x, rfl⟩
  · refine ⟨rfl, h _ ?_⟩
    cases k
    · exact nan_drawn32 t
    · exact nan_drawn64 t
  · refine ⟨rfl, h _ ?_⟩
    cases k
    · exact nan_drawn32 t
    · exact nan_drawn64 t

theorem below_drawn (B : Nat) (w : World) (n : Nat) : Below B w { w with drawn := n } := ⟨rfl, rfl, rfl, Nat.le_refl _, fun _ _ => rfl⟩

/-- '+', '-', '*', '/' on floats. -/
theorem run_floatArith_is {P : Program} (op : BinOp) (hop : op = .add ∨ op = .sub ∨ op = .mul ∨ op = .quo) {k : FloatKind} {x y : Fl k} {a b : Nat} (hx : x.Is a) (hy : y.Is b) (w : World) :
    ∃ r n, (Op.floatArith op k a b).run P w = .ok (.float k r) { w with drawn := n } ∧ (Fl.res k (floatBits op k x.bits y.bits)).Is r := by
  have hfb := floatBits_is op hx hy
  cases he : floatBits op k a b with
  | some r =>
    refine ⟨r, w.drawn, ?_, ?_⟩
    · exact run_floatArith w he
    · rw [← hfb, he]
      have := floatBits_wf he
      refine Fl.is_of ?_
      cases k
      · exact of_decide_eq_true this
      · exact of_decide_eq_true this
  | none =>
    refine ⟨(Question.nanBits k a b).cut (w.tape w.drawn (.nanBits k a b)), w.drawn + 1, ?_, ?_⟩
    · unfold floatBits at he
      rcases hop with rfl | rfl | rfl | rfl <;> simp only at he <;> simp [Op.floatArith, he, Question.forced]
    · rw [← hfb, he]
      exact (nanbits_is (.nanBits k a b) (.inl ⟨_, _, rfl⟩) _).2

end Go.Ab
