/-
  What a statement's arguments are, as data.
-/
import Derived.Test.YtgmjoehnkannkaaAbTop
import Derived.ProofKit
import Derived.Deep.Slices
import Derived.Laws.Cover2
namespace Go.Ab
open Go.RowKit Go.ChangeShapes Go.WideShapes Go.ChangeAt Go.Deep

def EK.wf : (κ : EK) → κ.den → Prop
  | .int k, n => (Lit.int k n).wf = true
  | .str, s => s.size ≤ maxLen
  | .pair a b, x => a.wf x.1 ∧ b.wf x.2
  | .bool, _ => True
  | .flt _, _ => True
  | .cpx _, _ => True

mutual
def DS.wf : (d : DS) → d.den → Prop
  | .int k, n => (Lit.int k n).wf = true
  | .str, s => s.size ≤ maxLen
  | .list κ, l => l.length ≤ maxLen ∧ ∀ x ∈ l, κ.wf x
  | .agg l, x => DS.wfs l x
  | .ptr d, x => d.wf x
  | .bool, _ => True
  | .flt _, _ => True
  | .cpx _, _ => True
def DS.wfs : (d : List DS) → DS.dens d → Prop
  | [], _ => True
  | [d], x => d.wf x
  | d :: e :: r, x => d.wf x.1 ∧ DS.wfs (e :: r) x.2
end

def ekOf (P : Program) (e : TypeId) : Option EK :=
  if P.cellsOf e = 1 then match P.underlying e with
    | some .bool => some .bool
    | some (.int k) => some (.int k)
    | some (.float k) => some (.flt k)
    | some .string => some .str
    | _ => none
  else none

def fds (g : TypeId → Option (List DS)) (P : Program) : List Field → Nat → Option (List DS)
  | [], _ => some []
  | f :: r, off => match g f.type, fds g P r (off + P.cellsOf f.type) with
    | some a, some b => if f.offset = off ∧ a.length = P.cellsOf f.type then some (a ++ b) else none
    | _, _ => none

def cds (P : Program) : Nat → TypeId → Option (List DS)
  | 0, _ => none
  | n + 1, t => match P.underlying t with
    | some .bool => some [.bool]
    | some (.int k) => some [.int k]
    | some (.float k) => some [.flt k]
    | some .string => some [.str]
    | some (.slice e) => (ekOf P e).map fun κ => [.list κ]
    | some (.struct fs) => (fds (cds P n) P fs.toList 0).bind fun l => if l.length = P.cellsOf t then some l else none
    | _ => none

def argDS (P : Program) (t : TypeId) : Option DS :=
  match P.underlying t with
  | some (.struct _) => (cds P 20 t).map .agg
  | _ => match cds P 20 t with
    | some [d] => some d
    | _ => none

def argsDS (P : Program) : List TypeId → Option (List DS)
  | [] => some []
  | t :: r => match argDS P t, argsDS P r with
    | some d, some l => some (d :: l)
    | _, _ => none

theorem DReps.append {w : World} : ∀ (a : List DS) {b : List DS} {u v : List Value}, (∃ x, DReps w a x u ∧ DS.wfs a x) → (∃ x, DReps w b x v ∧ DS.wfs b x) → ∃ x, DReps w (a ++ b) x (u ++ v) ∧ DS.wfs (a ++ b) x
  | [], b, u, v, ⟨_, h, _⟩, k => by
    have h' : u = [] := h
    subst h'; exact k
  | [d], [], u, v, h, ⟨y, k, _⟩ => by
    have k' : v = [] := k
    subst k'
    rw [List.append_nil u]; exact h
  | [d], e :: r, u, v, h, k => by
    obtain ⟨x, ⟨a, h1, h⟩, hw⟩ := h
    obtain ⟨y, k, kw⟩ := k
    subst h1
    exact ⟨(x, y), (⟨a, v, rfl, h, k⟩ : DReps w (d :: e :: r) (x, y) (a :: v)), (⟨hw, kw⟩ : DS.wfs (d :: e :: r) (x, y))⟩
  | d :: e :: r, b, u, v, h, k => by
    obtain ⟨x, ⟨a, s, h1, h, h'⟩, hw, hw'⟩ := h
    subst h1
    obtain ⟨y, g, gw⟩ := DReps.append (e :: r) ⟨x.2, h', hw'⟩ k
    exact ⟨(x.1, y), (⟨a, s ++ v, rfl, h, g⟩ : DReps w (d :: e :: (r ++ b)) (x.1, y) (a :: (s ++ v))), (⟨hw, gw⟩ : DS.wfs (d :: e :: (r ++ b)) (x.1, y))⟩

theorem DReps.len {w : World} : ∀ (d : List DS) (x : DS.dens d) (u : List Value), DReps w d x u → u.length = d.length
  | [], _, u, h => by have h' : u = [] := h; subst h'; rfl
  | [d], _, u, h => by obtain ⟨v, rfl, _⟩ := h; rfl
  | d :: e :: r, x, u, h => by
    obtain ⟨v, s, rfl, _, h'⟩ := h
    simp [DReps.len (e :: r) x.2 s h']

section
variable {H : Type} {enc : TypeId × Value → H} {P : Program} {w : World} {held : Bool}

theorem fl_is {k : FloatKind} {b : Nat} (h : (Lit.float k b).wf = true) : (Fl.of k b).Is b := by
  refine Fl.is_of ?_
  cases k <;> exact of_decide_eq_true h

/-- one cell of a plain type -/
theorem ek_cell {e : TypeId} {κ : EK} (hκ : ekOf P e = some κ) {n : Nat} {v : Value} {out : DataW H × List MemPlace} (h : DataW.trod enc P w 0 (fun _ => true) held n e [v] = some out) : ∃ x, κ.wf x ∧ ∀ j c, (κ.cells x)[j]? = some c → j = 0 ∧ VRep β0 c v := by
  have one : ∀ (x : κ.den) (c : AV), κ.cells x = [c] → VRep β0 c v → ∀ j c', (κ.cells x)[j]? = some c' → j = 0 ∧ VRep β0 c' v := by
    intro x c hc hv j c' hj
    rw [hc] at hj
    cases j with
    | zero => simp at hj; subst hj; exact ⟨rfl, hv⟩
    | succ j => simp at hj
  unfold ekOf at hκ
  split at hκ
  · cases n with
    | zero => simp [DataW.trod] at h
    | succ n =>
      split at hκ
      · rename_i hu
        cases hκ
        unfold DataW.trod at h
        rw [hu] at h
        cases v <;> simp at h
        rename_i b
        exact ⟨b, trivial, one b _ rfl (.bs b)⟩
      · rename_i k hu
        cases hκ
        obtain ⟨m, h1, _, h3⟩ := DataW.trod_int hu h
        cases h1
        exact ⟨m, h3, one m _ rfl (.int k m)⟩
      · rename_i k hu
        cases hκ
        unfold DataW.trod at h
        rw [hu] at h
        cases v <;> simp at h
        rename_i k' b
        obtain ⟨⟨rfl, hw⟩, _⟩ := h
        exact ⟨Fl.of k' b, trivial, one (Fl.of k' b) _ rfl (.flt k' _ b (fl_is hw))⟩
      · rename_i hu
        cases hκ
        obtain ⟨s, h1, _, h3⟩ := DataW.trod_string hu h
        cases h1
        exact ⟨s, h3, one s _ rfl (.str s)⟩
      · cases hκ
  · cases hκ

theorem cds_ok : ∀ (n : Nat) (t : TypeId) (ds : List DS), cds P n t = some ds → ∀ (fuel : Nat) (cs : List Value) (out : DataW H × List MemPlace), DataW.trod enc P w 0 (fun _ => true) held fuel t cs = some out → ∃ x, DReps w ds x cs ∧ DS.wfs ds x
  | 0, _, _, h, _, _, _, _ => by cases h
  | n + 1, t, ds, h, fuel, cs, out, hd => by
    unfold cds at h
    cases fuel with
    | zero => simp [DataW.trod] at hd
    | succ fuel =>
    split at h
    · rename_i hu
      cases h
      obtain ⟨b, rfl, _⟩ := DataW.trod_bool hu hd
      exact ⟨b, ⟨_, rfl, rfl⟩, trivial⟩
    · rename_i k hu
      cases h
      obtain ⟨m, rfl, _, h3⟩ := DataW.trod_int hu hd
      exact ⟨m, ⟨_, rfl, rfl⟩, h3⟩
    · rename_i k hu
      cases h
      have : ∃ b, cs = [.float k b] ∧ (Lit.float k b).wf = true := by
        unfold DataW.trod at hd
        rw [hu] at hd
        match cs, hd with
        | [.float k' b], hd =>
          simp only at hd
          split at hd
          · rename_i hc
            obtain ⟨rfl, hw⟩ := hc
            exact ⟨b, rfl, hw⟩
          · cases hd
      obtain ⟨b, rfl, hw⟩ := this
      exact ⟨Fl.of k b, ⟨_, rfl, b, fl_is hw, rfl⟩, trivial⟩
    · rename_i hu
      cases h
      obtain ⟨s, rfl, _, h3⟩ := DataW.trod_string hu hd
      exact ⟨s, ⟨_, rfl, rfl⟩, h3⟩
    · rename_i e hu
      cases hκ : ekOf P e with
      | none => rw [hκ] at h; cases h
      | some κ =>
        rw [hκ] at h
        cases h
        have hc1 : P.cellsOf e = 1 := by
          unfold ekOf at hκ
          split at hκ
          · assumption
          · cases hκ
        have hκ1 : κ.size = 1 := by
          unfold ekOf at hκ
          rw [if_pos hc1] at hκ
          split at hκ <;> cases hκ <;> rfl
        rcases open_slice1 hu hc1 hd with ⟨rfl, _⟩ | ⟨a, len, cap, m, f, V, D, Pl, rfl, _, hl, hm, hmm, _, hx⟩
        · exact ⟨[], ⟨_, rfl, none, 0, rfl, Nat.le_refl _, .inl rfl⟩, by simp, fun x hx => by cases hx⟩
        · simp only [if_true] at hmm
          subst hmm
          -- the elements
          have el : ∀ i, i < m → ∃ x, κ.wf x ∧ ∀ j c, (κ.cells x)[j]? = some c → j = 0 ∧ VRep β0 c (V i) := fun i hi => ek_cell hκ (hx i hi).2
          have lst : ∀ k, k ≤ m → ∃ l : List κ.den, l.length = k ∧ (∀ x ∈ l, κ.wf x) ∧ ∀ i, i < k → ∀ x, l[i]? = some x → ∀ j c, (κ.cells x)[j]? = some c → j = 0 ∧ VRep β0 c (V i) := by
            intro k
            induction k with
            | zero => intro _; exact ⟨[], rfl, fun x hx => (by cases hx), fun i hi => absurd hi (by omega)⟩
            | succ k ih =>
              intro hk
              obtain ⟨l, h1, h2, h3⟩ := ih (by omega)
              obtain ⟨x, h4, h5⟩ := el k (by omega)
              refine ⟨l ++ [x], by simp [h1], fun y hy => ?_, fun i hi y hy => ?_⟩
              · rcases List.mem_append.1 hy with hy | hy
                · exact h2 y hy
                · rw [List.mem_singleton] at hy; subst hy; exact h4
              · by_cases hik : i < k
                · rw [List.getElem?_append_left (by omega)] at hy
                  exact h3 i hik y hy
                · have : i = k := by omega
                  subst this
                  rw [List.getElem?_append_right (by omega), h1, Nat.sub_self] at hy
                  simp at hy; subst hy; exact h5
          obtain ⟨l, h1, h2, h3⟩ := lst len hl
          refine ⟨l, ⟨_, rfl, some a, m, by rw [h1], by rw [h1]; exact hl, ?_⟩, by rw [h1]; omega, h2⟩
          by_cases h0 : l = []
          · exact .inl h0
          · have hpos : 0 < len := by rw [← h1]; exact List.length_pos_iff.2 h0
            have hspot : a.spot = none := by
              have := (hx 0 (by omega)).1
              unfold World.cell? at this
              have e0 : a.add 0 = a := by simp [Addr.add]
              rw [e0] at this
              split at this
              · split at this
                · cases this
                · rename_i hs; simpa using hs
              · cases this
            obtain ⟨blk, o, sp⟩ := a
            simp only at hspot
            subst hspot
            refine .inr ⟨blk, o, rfl, fun j c hj => ?_⟩
            have hjl : j < l.length := by
              have := (List.getElem?_eq_some_iff.1 hj).1
              rw [flat_length, hκ1] at this; omega
            have hj' := flat_get κ l j 0 l[j] (List.getElem?_eq_getElem hjl) (by omega)
            rw [hκ1, Nat.mul_one, Nat.add_zero] at hj'
            rw [hj'] at hj
            have hv := (h3 j (by omega) _ (List.getElem?_eq_getElem hjl) 0 c hj).2
            have := (hx j (by omega)).1
            rw [addr_add] at this
            exact ⟨V j, this, hv⟩
    · rename_i fs hu
      cases hf : fds (cds P n) P fs.toList 0 with
      | none => rw [hf] at h; cases h
      | some dl =>
        rw [hf] at h
        simp only [Option.bind_some] at h
        split at h
        · rename_i hlen
          cases h
          obtain ⟨xs, m, hm, _, hcl, hxl, hx⟩ := DataW.trod_struct hu hd
          cases hm
          have each : ∀ f ∈ fs.toList, ∃ y, DataW.trod enc P w 0 (fun _ => true) held fuel f.type ((cs.drop f.offset).take (P.cellsOf f.type)) = some y := by
            intro f hf
            obtain ⟨i, hi⟩ := List.getElem?_of_mem hf
            rw [Array.getElem?_toList] at hi
            have hlt : i < xs.length := by rw [hxl]; exact (Array.getElem?_eq_some_iff.1 hi).1
            exact ⟨xs[i], by rw [hx i f hi, List.getElem?_eq_getElem hlt]⟩
          have fields : ∀ (l : List Field) (off : Nat) (dl : List DS), fds (cds P n) P l off = some dl → (∀ f ∈ l, ∃ y, DataW.trod enc P w 0 (fun _ => true) held fuel f.type ((cs.drop f.offset).take (P.cellsOf f.type)) = some y) →
              off + dl.length = cs.length → ∃ x, DReps w dl x (cs.drop off) ∧ DS.wfs dl x := by
            intro l
            induction l with
            | nil =>
              intro off dl h1 _ h3
              cases h1
              refine ⟨(), ?_, trivial⟩
              show cs.drop off = []
              exact List.drop_eq_nil_of_le (by simpa using Nat.le_of_eq h3.symm)
            | cons f r ih =>
              intro off dl h1 h2 h3
              unfold fds at h1
              obtain ⟨y, g1⟩ := h2 f List.mem_cons_self
              cases ha : cds P n f.type with
              | none => rw [ha] at h1; simp at h1
              | some a =>
              cases hb : fds (cds P n) P r (off + P.cellsOf f.type) with
              | none => rw [ha, hb] at h1; simp at h1
              | some b =>
              rw [ha, hb] at h1
              simp only at h1
              split at h1
              · rename_i hc
                obtain ⟨rfl, hal⟩ := hc
                cases h1
                rw [List.length_append] at h3
                have i1 := cds_ok n f.type a ha fuel _ y g1
                have i2 := ih (f.offset + P.cellsOf f.type) b hb (fun f' hf' => h2 f' (List.mem_cons_of_mem _ hf')) (by omega)
                have := DReps.append a i1 i2
                rw [← List.drop_drop, List.take_append_drop] at this
                exact this
              · cases h1
          have := fields fs.toList 0 _ hf each (by omega)
          simpa using this
        · cases h
    · cases h

theorem arg_drep {t : TypeId} {d : DS} (ht : argDS P t = some d) {r : Reach} {base : Nat} {v : Value} {dd : DataW H} {ps : List MemPlace} (hok : Value.okWide P w r base t v) (h : DataW.Trod enc P w 0 (fun _ => true) held t v dd ps) : ∃ x, DRep w d x v ∧ d.wf x := by
  obtain ⟨fuel, hf⟩ := h
  unfold argDS at ht
  split at ht
  · rename_i fs hu
    cases hc : cds P 20 t with
    | none => rw [hc] at ht; cases ht
    | some ds =>
      rw [hc] at ht; cases ht
      obtain ⟨cs, rfl, _⟩ := okWide_struct hu hok
      obtain ⟨x, h1, h2⟩ := cds_ok 20 t ds hc fuel _ _ hf
      exact ⟨x, ⟨cs, rfl, h1⟩, h2⟩
  · rename_i hns
    split at ht
    · rename_i d' hc
      cases ht
      obtain ⟨x, ⟨v', h1, h2⟩, h3⟩ := cds_ok 20 t [d] hc fuel _ _ hf
      have hcell : v.cells.toList = [v] := by
        unfold cds at hc
        split at hc
        · rename_i hu; obtain ⟨b, rfl⟩ := okWide_bool hu hok; rfl
        · rename_i k hu; obtain ⟨b, rfl⟩ := okWide_int hu hok; rfl
        · rename_i k hu; obtain ⟨b, rfl⟩ := okWide_float hu hok; rfl
        · rename_i hu; obtain ⟨b, rfl⟩ := okWide_string hu hok; rfl
        · rename_i e hu; obtain ⟨a, l, c, rfl⟩ := okWide_slice hu hok; rfl
        · rename_i fs hu; exact absurd hu (hns fs)
        · cases hc
      rw [hcell] at h1
      cases h1
      exact ⟨x, h2, h3⟩
    · cases ht

theorem args_drep : ∀ (ts : List TypeId) (ds : List DS) (_ : argsDS P ts = some ds) {r : Reach} {base : Nat} (vs : List Value) (dd : List (DataW H)) (ps : List MemPlace), (∀ (j : Nat) t v, ts[j]? = some t → vs[j]? = some v → Value.okWide P w r base t v) →
    DataW.TrodAll enc P w 0 (fun _ => true) held ts vs dd ps → ∃ x, DReps w ds x vs ∧ DS.wfs ds x
  | [], ds, h, _, _, vs, dd, ps, _, ht => by
    cases h
    cases vs <;> cases dd <;> simp [DataW.TrodAll] at ht
    exact ⟨(), rfl, trivial⟩
  | t :: ts, ds, h, r, base, vs, dd, ps, hok, ht => by
    unfold argsDS at h
    cases h1 : argDS P t with
    | none => rw [h1] at h; simp at h
    | some d =>
    cases h2 : argsDS P ts with
    | none => rw [h1, h2] at h; simp at h
    | some l =>
    rw [h1, h2] at h
    cases h
    cases vs with
    | nil => cases dd <;> simp [DataW.TrodAll] at ht
    | cons v vs =>
    cases dd with
    | nil => simp [DataW.TrodAll] at ht
    | cons d0 dd =>
    obtain ⟨p, q, g1, g2, _⟩ := ht
    obtain ⟨x, k1, k2⟩ := arg_drep h1 (hok 0 t v rfl rfl) g1
    obtain ⟨y, k3, k4⟩ := args_drep ts l h2 vs dd q (fun j t' v' e1 e2 => hok (j + 1) t' v' (by simpa using e1) (by simpa using e2)) g2
    cases l with
    | nil =>
      have k3' : vs = [] := k3
      subst k3'
      exact ⟨x, ⟨v, rfl, k1⟩, k2⟩
    | cons e l => exact ⟨(x, y), ⟨v, vs, rfl, k1, k3⟩, k2, k4⟩
end
end Go.Ab
