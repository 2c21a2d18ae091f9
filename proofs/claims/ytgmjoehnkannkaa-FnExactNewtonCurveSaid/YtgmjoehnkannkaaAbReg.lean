/-
  Regions.
-/
import Derived.Test.YtgmjoehnkannkaaAbOp
namespace Go.Ab
open Go.RowKit

structure SR (β : Bt) (base : Nat) (s : St) (a : Act) (w : World) : Prop where
  tm : VReps β s.tm a.tmps.toList
  rep : Rep β s.hp w base
  base : base ≤ w.heap.size
  defers : a.defers = []

/-- Behind some code: the state is told, and nothing of others has turned. -/
def After (β : Bt) (w : World) (base : Nat) (s : St) (a : Act) (w' : World) : Prop := ∃ β', β.le β' ∧ SR β' base s a w' ∧ Below base w w'

theorem World.cell?_heap {w w' : World} (h : w'.heap = w.heap) (p : Addr) : w'.cell? p = w.cell? p := by simp [World.cell?, h]
theorem World.frozen?_heap {w w' : World} (h : w'.heap = w.heap) (p : Addr) : w'.frozen? p = w.frozen? p := by simp [World.frozen?, h]

theorem Rep.heap_eq {β : Bt} {h : Heap} {w w' : World} {base : Nat} (hr : Rep β h w base) (hw : w'.heap = w.heap) : Rep β h w' base := by
  refine ⟨hr.dom, hr.loc, fun n b l hn hb hl => ?_, hr.sep⟩
  have hB := hr.blk n b l hn hb hl
  refine ⟨hB.own, hB.len, hB.es, fun j v hj => ?_, fun ho hs => ?_, hB.room, hB.other⟩
  · obtain ⟨u, h1, h2⟩ := hB.cells j v hj
    exact ⟨u, by rw [World.cell?_heap hw]; exact h1, h2⟩
  · obtain ⟨h1, h2, h3⟩ := hB.mine ho hs
    exact ⟨h1, by rw [hw]; exact h2, fun o h => by rw [World.frozen?_heap hw]; exact h3 o h⟩

theorem Rep.congr {β : Bt} {h h' : Heap} {w : World} {base : Nat} (hr : Rep β h w base) (hh : ∀ n, hget h' n = hget h n) : Rep β h' w base :=
  ⟨fun n hn => hr.dom n (by rw [← hh]; exact hn), fun n b hn => hr.loc n b (by rw [← hh]; exact hn), fun n b l hn => hr.blk n b l (by rw [← hh]; exact hn),
    fun n m b b' l l' hnm hn hm => hr.sep n m b b' l l' hnm (by rw [← hh]; exact hn) (by rw [← hh]; exact hm)⟩

theorem _root_.Go.RowKit.Below.size_le' {base : Nat} {w w' : World} (h : Below base w w') (hb : base ≤ w.heap.size) : base ≤ w'.heap.size := by
  have := h.size; omega

theorem put_rep {β : Bt} {tm : List AV} {a : Act} (ht : VReps β tm a.tmps.toList) (d : Option Nat) {v : AV} {u : Value} (hv : VRep β v u) : VReps β (setD tm d v) (a.put d u).tmps.toList := by
  cases d with
  | none => exact ht
  | some d =>
    show VReps β (tm.set d v) (a.tmps.setIfInBounds d u).toList
    rw [Array.toList_setIfInBounds]
    exact ht.set d hv

theorem put_defers (a : Act) (d : Option Nat) (u : Value) : (a.put d u).defers = a.defers := by cases d <;> rfl

theorem undef_rep (β : Bt) : VRep β (.tup []) undef := .tup _ _ .nil

/-- what a guard finds -/
inductive GRep : AV → Option Bool → Prop
  | bl (b : Bool) : GRep (.bl b) (some b)
  | bs (b : Bool) : GRep (.bs b) (some b)
  | tup : GRep (.tup []) none

theorem slotOf_dst {ops : Array Oper} {all : List Oper} (hall : all = ops.toList) (j : Nat) : slotOf all j = (ops[j]?).bind (·.dst) := by
  subst hall; unfold slotOf; rw [Array.getElem?_toList]

theorem guard_rep {β : Bt} {v : AV} {u : Value} (h : VRep β v u) : (∀ b, v = .bl b ∨ v = .bs b → u = .bool b) ∧ (v = .tup [] → u = .tuple #[]) := by
  refine ⟨fun b hb => ?_, fun hb => ?_⟩
  · rcases hb with rfl | rfl <;> cases h <;> rfl
  · subst hb
    cases h with
    | tup _ cs h => cases h' : cs.toList with
      | nil => have : cs = #[] := Array.ext' h'
               rw [this]
      | cons x r => rw [h'] at h; cases h

theorem yielded_of {ops : Array Oper} {a : Act} {g d : Nat} (hd : (ops[g]?).bind (·.dst) = some d) (hlt : d < a.tmps.size) : yielded ops a.tmps g = match a.tmps.getD d undef with | .bool b => some b | _ => none := by
  unfold yielded
  rw [hd]
  have h1 : a.tmps[d]? = some a.tmps[d] := Array.getElem?_eq_getElem hlt
  have h2 : a.tmps.getD d undef = a.tmps[d] := by simp [Array.getD, hlt]
  rw [h2]
  simp only [Option.bind_some, h1]
  cases a.tmps[d] <;> rfl

theorem yielded_out {ops : Array Oper} {a : Act} {g d : Nat} (hd : (ops[g]?).bind (·.dst) = some d) (hlt : ¬ d < a.tmps.size) : yielded ops a.tmps g = none := by
  unfold yielded
  rw [hd]
  simp only [Option.bind_some]
  rw [Array.getElem?_eq_none (by omega)]

/-- the slot of a guard, as it is told -/
theorem slot_rep {β : Bt} {tm : List AV} {a : Act} (ht : VReps β tm a.tmps.toList) (d : Nat) : VRep β (tm.getD d .top) (a.tmps.getD d undef) := by
  have := ht.getD d undef
  simpa [Array.getD_eq_getD_getElem?] using this

theorem bool_slot {β : Bt} {tm : List AV} {a : Act} (ht : VReps β tm a.tmps.toList) {ops : Array Oper} {g d : Nat} (hd : (ops[g]?).bind (·.dst) = some d) {b : Bool} (hv : tm.getD d .top = .bl b ∨ tm.getD d .top = .bs b) : yielded ops a.tmps g = some b := by
  have hs := slot_rep ht d
  have hu := (guard_rep hs).1 b hv
  have hlt : d < a.tmps.size := by
    have hl := ht.length
    by_cases h : d < a.tmps.size
    · exact h
    · have : tm.getD d .top = .top := by rw [List.getD_eq_getElem?_getD, List.getElem?_eq_none (by rw [hl]; simpa using h)]; rfl
      rw [this] at hv; rcases hv with hv | hv <;> cases hv
  rw [yielded_of hd hlt, hu]

theorem tup_slot {β : Bt} {tm : List AV} {a : Act} (ht : VReps β tm a.tmps.toList) {ops : Array Oper} {g d : Nat} (hd : (ops[g]?).bind (·.dst) = some d) (hv : tm.getD d .top = .tup []) : yielded ops a.tmps g = none := by
  have hs := slot_rep ht d
  have hu := (guard_rep hs).2 hv
  by_cases hlt : d < a.tmps.size
  · rw [yielded_of hd hlt, hu]
  · exact yielded_out hd hlt

theorem set_bl {β : Bt} {tm : List AV} {us : List Value} (ht : VReps β tm us) {d : Nat} {b : Bool} (hv : tm.getD d .top = .bs b) : VReps β (tm.set d (.bl b)) us := by
  induction tm generalizing d us with
  | nil => simpa using ht
  | cons v r ih =>
    cases ht with
    | cons _ u _ s h1 h2 =>
    cases d with
    | zero =>
      have : v = .bs b := by simpa using hv
      subst this
      cases h1
      exact .cons _ _ _ _ (.bl b) h2
    | succ d => exact .cons _ _ _ _ h1 (ih h2 (by simpa using hv))

section
variable {P : Program} {Γ : Ctx} {base : Nat} {ops : Array Oper} {Q : Exit → Act → World → Prop}

/-- One operation of a region and those behind it. -/
theorem evOps_step {call : CallF} (hΓ : CtxOk P Γ) (hcall : CallsOk P call) {β : Bt} {s : St} {a : Act} {w : World} (hs : SR β base s a w) (nm : Nat) {all : List Oper} (hall : all = ops.toList) {o : Oper} (ho : operOk o = true) {rest : List Oper} {s' : St}
    (he : (evOps Γ call nm all (o :: rest) s).den = some s') {K : Act → World → Prop}
    (hK : ∀ β' s1 a1 w1, β.le β' → SR β' base s1 a1 w1 → Below base w w1 → (evOps Γ call nm all rest s1).den = some s' → K a1 w1) :
    if Region.wanted o (yielded ops a.tmps) then o.wp P a w K Q ∨ (o.asks P a w ∧ LetsOut Q) else K (a.put o.dst undef) w := by
  have run : ∀ tm, VReps β tm a.tmps.toList → Region.wanted o (yielded ops a.tmps) = true → ((evOp Γ call tm s.hp nm o).bind fun r => evOps Γ call nm all rest ⟨setD tm o.dst r.1, r.2⟩).den = some s' →
      if Region.wanted o (yielded ops a.tmps) then o.wp P a w K Q ∨ (o.asks P a w ∧ LetsOut Q) else K (a.put o.dst undef) w := by
    intro tm ht hw he
    rw [if_pos hw]
    obtain ⟨r, h1, h2⟩ := den_bind_some he
    refine .inl ((evOp_sound (a := a) hΓ hcall hs.rep hs.base ht nm o ho r h1).wp fun u w' ⟨β', hle, hr', hv, hbel⟩ => ?_)
    exact hK β' _ _ _ hle ⟨put_rep (ht.mono hle) o.dst hv, hr', hbel.size_le' hs.base, by rw [put_defers]; exact hs.defers⟩ hbel h2
  have skip : ∀ tm, VReps β tm a.tmps.toList → Region.wanted o (yielded ops a.tmps) = false → (evOps Γ call nm all rest ⟨setD tm o.dst (.tup []), s.hp⟩).den = some s' →
      if Region.wanted o (yielded ops a.tmps) then o.wp P a w K Q ∨ (o.asks P a w ∧ LetsOut Q) else K (a.put o.dst undef) w := by
    intro tm ht hw he
    rw [hw, if_neg Bool.false_ne_true]
    exact hK β ⟨setD tm o.dst (.tup []), s.hp⟩ _ _ β.le_refl ⟨put_rep ht o.dst (undef_rep β), hs.rep, hs.base, by rw [put_defers]; exact hs.defers⟩ (Below.refl _ _) he
  unfold evOps at he
  dsimp only at he
  cases hg : o.guard with
  | none =>
    rw [hg] at he
    exact run s.tm hs.tm (by unfold Region.wanted; rw [hg]) he
  | some gw =>
    obtain ⟨g, want⟩ := gw
    rw [hg] at he
    dsimp only at he
    have hwant : ∀ y, yielded ops a.tmps g = y → Region.wanted o (yielded ops a.tmps) = (y == some want) := by
      intro y hy; unfold Region.wanted; rw [hg]; simp only [hy]
    have hbb : ∀ b : Bool, (some b == some want) = (b == want) := by intro b; cases b <;> cases want <;> rfl
    split at he
    · exact (den_fail he).elim
    · rename_i d hd
      rw [slotOf_dst hall] at hd
      split at he
      · rename_i b hb
        have hy := bool_slot hs.tm hd (.inl hb)
        have hw := hwant _ hy
        rw [hbb] at hw
        cases hbw : (b == want) with
        | true => rw [hbw] at he hw; exact run _ hs.tm hw he
        | false => rw [hbw] at he hw; exact skip _ hs.tm hw he
      · rename_i b hb
        have hy := bool_slot hs.tm hd (.inr hb)
        have hw := hwant _ hy
        rw [hbb] at hw
        have hset := set_bl hs.tm hb
        rw [T.den] at he
        cases b with
        | true =>
          simp only [cond_true] at he
          cases want with
          | true => exact run _ hset hw he
          | false => exact skip _ hset hw he
        | false =>
          simp only [cond_false] at he
          cases want with
          | true => exact skip _ hset hw he
          | false => exact run _ hset hw he
      · rename_i hb
        have hy := tup_slot hs.tm hd hb
        exact skip _ hs.tm (hwant _ hy) he
      · exact (den_fail he).elim

theorem SR.step {β β1 : Bt} {w w1 w2 : World} {s : St} {a : Act} (h1 : β.le β1) (h2 : Below base w w1) (h : After β1 w1 base s a w2) : After β w base s a w2 := by
  obtain ⟨β', g1, g2, g3⟩ := h
  exact ⟨β', h1.trans g1, g2, h2.trans g3⟩

theorem evOps_sound {call : CallF} (hΓ : CtxOk P Γ) (hcall : CallsOk P call) (nm : Nat) {all : List Oper} (hall : all = ops.toList) : ∀ (rest : List Oper), rest.all operOk = true → ∀ (β : Bt) (s : St) (a : Act) (w : World), SR β base s a w → ∀ s',
    (evOps Γ call nm all rest s).den = some s' → (∀ a' w', After β w base s' a' w' → Q .normal a' w') → wpList P ops Q rest a w
  | [], _, β, s, a, w, hs, s', he, hQ => by
    have := den_ret he
    subst this
    exact hQ a w ⟨β, β.le_refl, hs, Below.refl _ _⟩
  | o :: rest, ho, β, s, a, w, hs, s', he, hQ => by
    simp only [List.all_cons, Bool.and_eq_true] at ho
    exact evOps_step hΓ hcall hs nm hall ho.1 he fun β1 s1 a1 w1 h1 h2 h3 h4 => evOps_sound hΓ hcall nm hall rest ho.2 β1 s1 a1 w1 h2 s' h4 fun a' w' h5 => hQ a' w' (SR.step h1 h3 h5)
end
end Go.Ab
