/-
  Builtins; calls of functions whose doing is told as a function of data.
-/
import Derived.Test.YtgmjoehnkannkaaAbNew3
namespace Go.Ab
open Go.RowKit

section
variable {P : Program} {Γ : Ctx} {β : Bt} {w : World}

theorem foldMM_run (b : Bool) (k : IntKind) : ∀ (l : List AV) (us : List Value) (x r : Int), VReps β l us → foldMM b k x l = some r →
    (us.foldlM (m := Sem) (if b then Builtin.max2 else Builtin.min2) (.int k x)).run P w = .ok (.int k r) w
  | [], us, x, r, hv, h => by cases hv; cases h; rfl
  | v :: l, us, x, r, hv, h => by
    cases hv with
    | cons _ u _ s h1 h2 =>
    match v, h with
    | .int k' y, h =>
      cases h1
      have h' : (if k' = k then foldMM b k (maxN b x y) l else none) = some r := h
      split at h'
      · rename_i e; subst e
        have ih := foldMM_run b k' l s (maxN b x y) r h2 h'
        rw [List.foldlM_cons]
        cases b
        · simp only [Sem.run_bind, Builtin.min2, Sem.run_pure, Result.andThen_ok, Bool.false_eq_true, if_false, maxN] at ih ⊢; exact ih
        · simp only [Sem.run_bind, Builtin.max2, Sem.run_pure, Result.andThen_ok, if_true, maxN] at ih ⊢; exact ih
      · cases h'

theorem builtinA_run (hΓ : TysOk P Γ) (b : Builtin) (ts : Array Nat) (ty : Nat) (cs : Array Bool) (args : List AV) (vs : Array Value) (hv : VReps β args vs.toList) (v : AV) (he : (builtinA Γ b ts.toList args).den = some v) :
    ∃ u, (builtin b ts ty cs vs).run P w = .ok (.value u) w ∧ VRep β v u := by
  have len : ∀ (t : Nat) (d : TyI) (x : Value) (n : Nat), ts[0]? = some t → Γ.ty t = some d → vs = #[x] → ((d.d = .str ∧ ∃ s, x = .string s ∧ n = s.size) ∨ (∃ e, d.d = .slc e) ∧ ∃ a c, x = .slice a n c) →
      (builtin .len ts ty cs vs).run P w = .ok (.value (.int .i64 n)) w := by
    intro t d x n h1 h2 h3 h4
    obtain ⟨d', hu, hd, _⟩ := (hΓ.ty _ _ h2).under
    subst h3
    rcases h4 with ⟨h5, s, rfl, rfl⟩ | ⟨⟨e, h5⟩, a, c, rfl⟩
    · rw [h5] at hd
      obtain rfl := dok_str hd
      simp [builtin, Builtin.len_, h1, hu, goInt]
    · rw [h5] at hd
      obtain rfl := dok_slc hd
      simp [builtin, Builtin.len_, h1, hu, goInt]
  have one : ∀ (x : Value), vs.toList = [x] → vs = #[x] := fun x h => by cases vs; simp_all
  have two : ∀ (x y : Value), vs.toList = [x, y] → vs = #[x, y] := fun x y h => by cases vs; simp_all
  unfold builtinA at he
  split at he
  · split at he
    · rename_i s t r ht
      split at he
      · rename_i hd
        rw [← den_ret he]
        generalize hul : vs.toList = ul at hv
        cases hv with
        | cons _ u _ _ h1 h2 =>
        cases h1; cases h2
        refine ⟨_, len t _ _ _ ?_ hd (one _ hul) (.inl ⟨rfl, _, rfl, rfl⟩), .int _ _⟩
        have := congrArg (fun l => l[0]?) ht; simpa using this
      · exact (den_fail he).elim
    · exact (den_fail he).elim
  · split at he
    · rename_i n o m t r ht
      split at he
      · rename_i hd
        rw [← den_ret he]
        generalize hul : vs.toList = ul at hv
        cases hv with
        | cons _ u _ _ h1 h2 =>
        cases h1; cases h2
        refine ⟨_, len t _ _ _ ?_ hd (one _ hul) (.inr ⟨⟨_, rfl⟩, _, _, rfl⟩), .int _ _⟩
        have := congrArg (fun l => l[0]?) ht; simpa using this
      · exact (den_fail he).elim
    · exact (den_fail he).elim
  · split at he
    · rename_i κ t r ht
      split at he
      · rename_i hd
        rw [← den_ret he]
        generalize hul : vs.toList = ul at hv
        cases hv with
        | cons _ u _ _ h1 h2 =>
        cases h1; cases h2
        refine ⟨_, len t _ _ 0 ?_ hd (one _ hul) (.inr ⟨⟨_, rfl⟩, _, _, rfl⟩), .int _ _⟩
        have := congrArg (fun l => l[0]?) ht; simpa using this
      · exact (den_fail he).elim
    · exact (den_fail he).elim
  · split at he
    · rename_i e; subst e
      rw [← den_ret he]
      generalize hul : vs.toList = ul at hv
      cases hv with
      | cons _ u _ _ h1 h2 =>
      cases h2 with
      | cons _ u' _ _ h3 h4 =>
      cases h4
      cases h1 with
      | flt _ x a ha =>
      cases h3 with
      | flt _ y b hb =>
      refine ⟨.complex _ a b, ?_, .cpx _ _ _ _ _ ha hb⟩
      have := two _ _ hul
      subst this
      have h5 := fun k => run_complex (P := P) w ts ty k a b
      show Sem.run P (do pure (Next.value (← Builtin.complex_ ts ty #[.float _ a, .float _ b]))) w = _
      rw [Sem.run_bind, h5]; rfl
    · exact (den_fail he).elim
  · rw [← den_ret he]
    generalize hul : vs.toList = ul at hv
    cases hv with
    | cons _ u _ _ h1 h2 =>
    cases h2
    cases h1 with
    | cpx _ x y a b ha hb =>
    have := one _ hul
    subst this
    exact ⟨.float _ a, rfl, .flt _ _ _ ha⟩
  · rw [← den_ret he]
    generalize hul : vs.toList = ul at hv
    cases hv with
    | cons _ u _ _ h1 h2 =>
    cases h2
    cases h1 with
    | cpx _ x y a b ha hb =>
    have := one _ hul
    subst this
    exact ⟨.float _ b, rfl, .flt _ _ _ hb⟩
  · split at he
    · rename_i n hn
      rw [← den_ret he]
      generalize hul : vs.toList = ul at hv
      cases hv with
      | cons _ u _ s h1 h2 =>
      cases h1
      refine ⟨.int _ n, ?_, .int _ _⟩
      have := foldMM_run (P := P) (w := w) true _ _ s _ n h2 hn
      simp only [if_true] at this
      simp [builtin, Builtin.max_, hul, this]
    · exact (den_fail he).elim
  · split at he
    · rename_i n hn
      rw [← den_ret he]
      generalize hul : vs.toList = ul at hv
      cases hv with
      | cons _ u _ s h1 h2 =>
      cases h1
      refine ⟨.int _ n, ?_, .int _ _⟩
      have := foldMM_run (P := P) (w := w) false _ _ s _ n h2 hn
      simp only [Bool.false_eq_true, if_false] at this
      simp [builtin, Builtin.min_, hul, this]
    · exact (den_fail he).elim
  · exact (den_fail he).elim
end

/-! ### Data in memory -/
def β0 : Bt := fun _ => none

/-- A slice that reads as a list. -/
def ListAt (w : World) (κ : EK) (l : List κ.den) (v : Value) : Prop :=
  ∃ a cap, v = .slice a l.length cap ∧ l.length ≤ cap ∧ (l = [] ∨ ∃ blk o, a = some ⟨blk, o, none⟩ ∧ ∀ j x, (l.flatMap κ.cells)[j]? = some x → ∃ u, w.cell? ⟨blk, o + j, none⟩ = some u ∧ VRep β0 x u)

mutual
def DRep (w : World) : (d : DS) → d.den → Value → Prop
  | .bool, b, v => v = .bool b
  | .int k, n, v => v = .int k n
  | .flt k, x, v => ∃ b, x.Is b ∧ v = .float k b
  | .cpx k, x, v => ∃ a b, x.1.Is a ∧ x.2.Is b ∧ v = .complex k a b
  | .str, s, v => v = .string s
  | .list κ, l, v => ListAt w κ l v
  | .agg l, x, v => ∃ cs : Array Value, v = .agg cs ∧ DReps w l x cs.toList
  | .ptr d, x, v => ∃ blk o, v = .pointer (some ⟨blk, o, none⟩) ∧ match d, x with
    | .agg l, x => ∃ us : List Value, (∀ (j : Nat) u, us[j]? = some u → w.cell? ⟨blk, o + j, none⟩ = some u) ∧ DReps w l x us
    | _, _ => False
def DReps (w : World) : (d : List DS) → DS.dens d → List Value → Prop
  | [], _, vs => vs = []
  | [d], x, vs => ∃ v, vs = [v] ∧ DRep w d x v
  | d :: e :: r, x, vs => ∃ v s, vs = v :: s ∧ DRep w d x.1 v ∧ DReps w (e :: r) x.2 s
end

/-- the cells of elements know of no names -/
theorem ek_rep {β β' : Bt} : ∀ (κ : EK) (x : κ.den) (c : AV) (u : Value), c ∈ κ.cells x → VRep β c u → VRep β' c u
  | .bool, x, c, u, hc, h => by simp only [EK.cells, List.mem_singleton] at hc; subst hc; cases h; exact .bs _
  | .int k, x, c, u, hc, h => by simp only [EK.cells, List.mem_singleton] at hc; subst hc; cases h; exact .int _ _
  | .flt k, x, c, u, hc, h => by simp only [EK.cells, List.mem_singleton] at hc; subst hc; cases h; exact .flt _ _ _ (by assumption)
  | .cpx k, x, c, u, hc, h => by simp only [EK.cells, List.mem_singleton] at hc; subst hc; cases h; exact .cpx _ _ _ _ _ (by assumption) (by assumption)
  | .str, x, c, u, hc, h => by simp only [EK.cells, List.mem_singleton] at hc; subst hc; cases h; exact .str _
  | .pair a b, x, c, u, hc, h => by
    simp only [EK.cells, List.mem_append] at hc
    rcases hc with hc | hc
    · exact ek_rep a _ c u hc h
    · exact ek_rep b _ c u hc h

theorem ek_flat {β β' : Bt} {κ : EK} {l : List κ.den} {j : Nat} {c : AV} {u : Value} (hj : (l.flatMap κ.cells)[j]? = some c) (h : VRep β c u) : VRep β' c u := by
  have := List.mem_of_getElem? hj
  obtain ⟨x, _, hx⟩ := List.mem_flatMap.1 this
  exact ek_rep κ x c u hx h

theorem listAt_slc {β : Bt} {g h : Heap} {w : World} {base : Nat} (hs : Sub g h) (hr : Rep β h w base) {n off len : Nat} {o : Bool} {κ : EK} {l : List κ.den} (hg : hget g n = some (.arr o κ l)) {v : Value} (hv : VRep β (.slc n off len) v) :
    ListAt w κ (sub l off len) v := by
  obtain ⟨a, cap, rfl, hlen, hc⟩ := slc_cells hr (hs _ _ hg) hv
  refine ⟨a, cap, by rw [hlen], ?_, ?_⟩
  · rw [hlen]
    cases hv with
    | slc _ _ _ loc _ _ _ hok =>
    obtain ⟨_, h2⟩ := hok
    rcases h2 with ⟨h2, _⟩ | h2 <;> omega
  · rcases hc with h0 | ⟨blk, o, ha, hc⟩
    · exact .inl (List.eq_nil_of_length_eq_zero (by rw [hlen, h0]))
    · refine .inr ⟨blk, o, ha, fun j x hj => ?_⟩
      obtain ⟨u, hu, hx⟩ := hc j x hj
      exact ⟨u, hu, ek_flat hj hx⟩

mutual
theorem read_rep {β : Bt} {g h : Heap} {w : World} {base : Nat} (hs : Sub g h) (hr : Rep β h w base) : ∀ (d : DS) (v : AV) (x : d.den) (u : Value), d.read g v = some x → VRep β v u → DRep w d x u
  | .bool, v, x, u, he, hv => by
    match v, he with
    | .bs b, he => cases he; cases hv; exact rfl
    | .bl b, he => cases he; cases hv; exact rfl
  | .int k, v, x, u, he, hv => by
    match v, he with
    | .int k' n, he =>
      have he' : (if k' = k then some n else none) = some x := he
      split at he'
      · rename_i e; subst e; cases he'; cases hv; exact rfl
      · cases he'
  | .flt k, v, x, u, he, hv => by
    match v, he with
    | .flt k' y, he =>
      have he' : (if e : k' = k then some (e ▸ y) else none) = some x := he
      split at he'
      · rename_i e; subst e; cases he'; cases hv with | flt _ _ b hb => exact ⟨b, hb, rfl⟩
      · cases he'
  | .cpx k, v, x, u, he, hv => by
    match v, he with
    | .cpx k' y z, he =>
      have he' : (if e : k' = k then some ((e ▸ y, e ▸ z) : Fl k × Fl k) else none) = some x := he
      split at he'
      · rename_i e; subst e; cases he'; cases hv with | cpx _ _ _ a b ha hb => exact ⟨a, b, ha, hb, rfl⟩
      · cases he'
  | .str, v, x, u, he, hv => by
    match v, he with
    | .str s, he => cases he; cases hv; exact rfl
  | .list κ, v, x, u, he, hv => by
    match v, he with
    | .nils _, he =>
      cases he
      cases hv with
      | nils _ a => exact ⟨a, 0, rfl, Nat.le_refl _, .inl rfl⟩
    | .slc n off len, he =>
      have he' : (match hget g n with
        | some (.arr _ κ' l) => if e : κ' = κ then some ((e ▸ sub l off len : List κ.den)) else none
        | _ => none) = some x := he
      split at he'
      · rename_i o κ' l hg
        split at he'
        · rename_i e; subst e; cases he'; exact listAt_slc hs hr hg hv
        · cases he'
      · cases he'
  | .agg l, v, x, u, he, hv => by
    match v, he with
    | .agg vs, he =>
      cases hv with
      | agg _ cs hcs => exact ⟨cs, rfl, reads_rep hs hr l vs x cs.toList he hcs⟩
  | .ptr d, v, x, u, he, hv => by
    match v, he with
    | .ptr n i c, he =>
      match d, x, he with
      | .agg ds, x, he =>
        have he' : (match hget g n with
          | some (.vals _ l) => if i = 0 ∧ c = 0 ∧ l.length = ds.length then DS.reads g ds l else none
          | _ => none) = some x := he
        split at he'
        · rename_i o l hg
          split at he'
          · rename_i hc
            obtain ⟨rfl, rfl, _⟩ := hc
            cases hv with
            | ptr _ _ _ loc hl hi hc =>
            have hb := hr.get (hs _ _ hg) trivial hl
            obtain ⟨us, h1, h2, h3⟩ := VReps.of_cells (fun j => w.cell? ⟨loc.blk, loc.off + j, none⟩) l hb.cells
            refine ⟨loc.blk, loc.off + (0 * loc.es + 0), rfl, us, fun j u hj => ?_, reads_rep hs hr ds l x us he' h3⟩
            have := h1 j u hj
            simpa using this
          · cases he'
        · cases he'
      | .bool, x, he => exact absurd he (by simp only [DS.read]; split <;> simp)
      | .int _, x, he => exact absurd he (by simp only [DS.read]; split <;> simp)
      | .flt _, x, he => exact absurd he (by simp only [DS.read]; split <;> simp)
      | .cpx _, x, he => exact absurd he (by simp only [DS.read]; split <;> simp)
      | .str, x, he => exact absurd he (by simp only [DS.read]; split <;> simp)
      | .list _, x, he => exact absurd he (by simp only [DS.read]; split <;> simp)
      | .ptr _, x, he => exact absurd he (by simp only [DS.read]; split <;> simp)
theorem reads_rep {β : Bt} {g h : Heap} {w : World} {base : Nat} (hs : Sub g h) (hr : Rep β h w base) : ∀ (d : List DS) (vs : List AV) (x : DS.dens d) (us : List Value), DS.reads g d vs = some x → VReps β vs us → DReps w d x us
  | [], vs, x, us, he, hv => by
    match vs, he with
    | [], _ => cases hv; exact rfl
  | [d], vs, x, us, he, hv => by
    match vs, he with
    | [v], he =>
      cases hv with
      | cons _ u _ _ h1 h2 =>
      cases h2
      exact ⟨u, rfl, read_rep hs hr d v x u he h1⟩
  | d :: e :: r, vs, x, us, he, hv => by
    match vs, he with
    | v :: vs, he =>
      have he' : (match d.read g v, DS.reads g (e :: r) vs with
        | some x, some y => some ((x, y) : d.den × DS.dens (e :: r))
        | _, _ => none) = some x := he
      split at he'
      · rename_i x1 y1 e1 e2
        cases he'
        cases hv with
        | cons _ u _ s h1 h2 =>
        exact ⟨u, s, rfl, read_rep hs hr d v x1 u e1 h1, reads_rep hs hr (e :: r) vs y1 s e2 h2⟩
      · cases he'
end

/-! ### New data -/
def ListOut (w : World) (base : Nat) (κ : EK) (l : List κ.den) (v : Value) (bl : List Nat) : Prop :=
  ∃ a cap, v = .slice a l.length cap ∧ ((l = [] ∧ cap = 0 ∧ bl = []) ∨ ∃ blk o size, a = some ⟨blk, o, none⟩ ∧ l.length ≤ cap ∧ o + cap * κ.size ≤ size ∧ base ≤ blk ∧
    (∃ cs e fr, w.heap[blk]? = some (.cells cs e fr) ∧ cs.size = size) ∧ (∀ o', o' < size → w.frozen? ⟨blk, o', none⟩ = false) ∧
    (∀ j x, (l.flatMap κ.cells)[j]? = some x → ∃ u, w.cell? ⟨blk, o + j, none⟩ = some u ∧ VRep β0 x u) ∧ bl = [blk])

def DOutC (w : World) (base : Nat) : (d : DS) → d.den → Value → List Nat → Prop
  | .bool, b, v, bl => v = .bool b ∧ bl = []
  | .int k, n, v, bl => v = .int k n ∧ bl = []
  | .flt k, x, v, bl => (∃ b, x.Is b ∧ v = .float k b) ∧ bl = []
  | .cpx k, x, v, bl => (∃ a b, x.1.Is a ∧ x.2.Is b ∧ v = .complex k a b) ∧ bl = []
  | .str, s, v, bl => v = .string s ∧ bl = []
  | .list κ, l, v, bl => ListOut w base κ l v bl
  | _, _, _, _ => False

def DOutCs (w : World) (base : Nat) : (d : List DS) → DS.dens d → List Value → List Nat → Prop
  | [], _, vs, bl => vs = [] ∧ bl = []
  | [d], x, vs, bl => ∃ v, vs = [v] ∧ DOutC w base d x v bl
  | d :: e :: r, x, vs, bl => ∃ v s b1 b2, vs = v :: s ∧ bl = b1 ++ b2 ∧ DOutC w base d x.1 v b1 ∧ DOutCs w base (e :: r) x.2 s b2

def DOut (w : World) (base : Nat) : (d : DS) → d.den → Value → List Nat → Prop
  | .agg l, x, v, bl => ∃ cs : Array Value, v = .agg cs ∧ DOutCs w base l x cs.toList bl
  | .bool, x, v, bl => DOutC w base .bool x v bl
  | .int k, x, v, bl => DOutC w base (.int k) x v bl
  | .flt k, x, v, bl => DOutC w base (.flt k) x v bl
  | .cpx k, x, v, bl => DOutC w base (.cpx k) x v bl
  | .str, x, v, bl => DOutC w base .str x v bl
  | .list κ, x, v, bl => DOutC w base (.list κ) x v bl
  | .ptr _, _, _, _ => False

def DOutT (w : World) (base : Nat) : (d : List DS) → DS.dens d → List Value → List Nat → Prop
  | [], _, vs, bl => vs = [] ∧ bl = []
  | [d], x, vs, bl => ∃ v, vs = [v] ∧ DOut w base d x v bl
  | d :: e :: r, x, vs, bl => ∃ v s b1 b2, vs = v :: s ∧ bl = b1 ++ b2 ∧ DOut w base d x.1 v b1 ∧ DOutT w base (e :: r) x.2 s b2

/-- one result as it is; others in a tuple -/
def DOutV (w : World) (base : Nat) (res : List DS) (x : DS.dens res) (u : Value) (bl : List Nat) : Prop :=
  ∃ vs, DOutT w base res x vs bl ∧ ((∃ v, vs = [v] ∧ u = v) ∨ ((∀ v, vs ≠ [v]) ∧ u = .tuple vs.toArray))

def CallOr (P : Program) (f : FuncId) (args : Array Value) (w : World) (R : Value → World → Prop) : Prop :=
  match (callFunc f args).run P w with
  | .ok (.value u) w' => R u w'
  | .ok (.enter f args) w' => Calls P f args w' fun e w'' => ∃ u, e = .returned u ∧ R u w''
  | _ => False

/-- WHAT IS SAID OF A FUNCTION: called with values that read as data, it gives new values that read as told, and turns nothing that was there. -/
def SpecOk' (P : Program) (f : Nat) (s : FSpec) : Prop :=
  ∀ (x : DS.dens s.args) (r : DS.dens s.res), s.F x = some r → ∀ (w : World) (args : Array Value), DReps w s.args x args.toList →
    CallOr P f args w fun u w' => Below w.heap.size w w' ∧ ∃ bl : List Nat, bl.Nodup ∧ DOutV w' w.heap.size s.res r u bl

theorem CallOr.mono {P : Program} {f : FuncId} {args : Array Value} {w : World} {R R' : Value → World → Prop} (h : CallOr P f args w R) (hr : ∀ u w', R u w' → R' u w') : CallOr P f args w R' := by
  unfold CallOr at *
  generalize (callFunc f args).run P w = r at *
  cases r with
  | halt x w' => exact h.elim
  | ok n w' =>
    cases n
    case value u => exact hr _ _ h
    case enter f args => exact h.mono fun e w'' ⟨u, e1, e2⟩ => ⟨u, e1, hr _ _ e2⟩
    all_goals exact h.elim
end Go.Ab
