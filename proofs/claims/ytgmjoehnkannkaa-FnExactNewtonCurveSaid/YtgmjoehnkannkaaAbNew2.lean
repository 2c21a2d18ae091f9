/-
  Operations that turn no memory that was there. Part 8: literals, new blocks, builtins.
-/
import Derived.Test.YtgmjoehnkannkaaAbNew
namespace Go.Ab
open Go.RowKit

section
variable {P : Program} {Γ : Ctx} {β : Bt} {w : World}

theorem fldPlaces_run (hΓ : TysOk P Γ) : ∀ (fs : List Field) (pl : List (Nat × Nat)), fldPlaces Γ (fs.map fun f => (f.type, f.offset)) = some pl →
    (fs.mapM (m := Sem) fun f => do pure (f.offset, ← sizeOf f.type)).run P w = .ok pl w
  | [], pl, h => by simp only [List.map_nil, fldPlaces, Option.some.injEq] at h; subst h; rfl
  | f :: r, pl, h => by
    simp only [List.map_cons, fldPlaces] at h
    split at h
    · rename_i ti l hti hl
      cases h
      rw [List.mapM_cons]
      have ih := fldPlaces_run hΓ r l hl
      simp only [Sem.run_bind, (hΓ.ty _ _ hti).sizeOf w, Result.andThen_ok, Sem.run_pure]
      rw [ih]; rfl
    · cases h

theorem buildA_run (hΓ : TysOk P Γ) (t : Nat) (ps : List (Nat × AV)) (qs : Array (Nat × Value)) (hlen : ps.length = qs.size)
    (hpq : ∀ (j : Nat) (p : Nat × AV) (q : Nat × Value), ps[j]? = some p → qs[j]? = some q → p.1 = q.1 ∧ VRep β p.2 q.2) (v : AV) (he : (buildA Γ t ps).den = some v) :
    RunsTo P (Instr.build t qs) w (VRep β v) := by
  have hpq' : ∀ (j : Nat) (p : Nat × AV) (q : Nat × Value), ps[j]? = some p → qs.toList[j]? = some q → p.1 = q.1 ∧ VRep β p.2 q.2 := fun j p q h1 h2 => hpq j p q h1 (by simpa using h2)
  unfold buildA at he
  split at he
  · rename_i fs _ _ z _ hti
    have hT := hΓ.ty _ _ hti
    obtain ⟨d, hu, hd, _⟩ := hT.under
    obtain ⟨fs', rfl, hfs⟩ := dok_struct hd
    obtain ⟨zv, hz1, hz2, _⟩ := hT.zero
    split at he
    · rename_i pl hpl
      split at he
      · rename_i l hl
        rw [← den_ret he]
        rw [hfs] at hpl
        have hm := fldPlaces_run (w := w) hΓ fs'.toList pl hpl
        obtain ⟨r', h1, h2⟩ := fill_rep (β := β) (pl[·]?) ps qs.toList z zv.cells l (by simpa using hlen) hpq' (hz2 β) hl
        refine RunsTo.of (u := .agg r') ?_ (.agg _ _ h2)
        unfold Instr.build
        have hm' : (fs'.mapM (m := Sem) fun f => do pure (f.offset, ← sizeOf f.type)).run P w = .ok pl.toArray w := by
          rw [Array.mapM_eq_mapM_toList, Sem.run_map, hm]; rfl
        simp only [Sem.run_bind, hz1, Result.andThen_ok, hu, hm']
        have h1' : Instr.fill (fun x => pl.toArray[x]?) zv.cells qs.toList = some r' := by simpa using h1
        simp only [h1']; rfl
      · exact (den_fail he).elim
    · exact (den_fail he).elim
  · rename_i n e _ _ z _ hti
    have hT := hΓ.ty _ _ hti
    obtain ⟨d, hu, hd, _⟩ := hT.under
    obtain rfl := dok_arr hd
    obtain ⟨zv, hz1, hz2, _⟩ := hT.zero
    split at he
    · rename_i te hte
      split at he
      · rename_i l hl
        rw [← den_ret he]
        obtain ⟨r', h1, h2⟩ := fill_rep (β := β) (fun i => some (i * te.size, te.size)) ps qs.toList z zv.cells l (by simpa using hlen) hpq' (hz2 β) hl
        refine RunsTo.of (u := .agg r') ?_ (.agg _ _ h2)
        unfold Instr.build
        simp only [Sem.run_bind, hz1, Result.andThen_ok, hu, (hΓ.ty _ _ hte).sizeOf w]
        simp only [h1]; rfl
      · exact (den_fail he).elim
    · exact (den_fail he).elim
  · exact (den_fail he).elim

/-! ### New rows -/
theorem hget_cons_self (n : Nat) (b : Blk) (d : Heap) : hget ((n, b) :: d) n = some b := by
  show cond (Nat.beq n n) _ _ = _
  rw [Nat.beq_refl]; rfl

theorem hget_cons_ne {n m : Nat} (b : Blk) (d : Heap) (h : n ≠ m) : hget ((n, b) :: d) m = hget d m := by
  show cond (Nat.beq n m) _ _ = _
  have : Nat.beq n m = false := by
    cases hb : Nat.beq n m with
    | false => rfl
    | true => exact absurd (Nat.eq_of_beq_eq_true hb) h
  rw [this]; rfl

/-- the place of a block of nothing -/
def phLoc (b : Blk) : Loc := ⟨0, 0, 0, b.len, b.es, true⟩

/-- places for a new row and for blocks of nothing -/
def extB (β : Bt) (d : Heap) (nm : Nat) (l : Loc) : Bt := fun n => if n = nm then some l else match hget d n with | some b => some (phLoc b) | none => β n

def isPh (d : Heap) : Prop := ∀ n b, hget d n = some b → ∃ κ, b = .arr true κ []

theorem frozen_new (w : World) (cs : Array Value) (e : Nat) (o : Nat) : ({ w with heap := w.heap.push (.cells cs e) } : World).frozen? ⟨w.heap.size, o, none⟩ = false := by
  simp [World.frozen?]

theorem cell_new (w : World) (cs : Array Value) (e : Nat) (o : Nat) : ({ w with heap := w.heap.push (.cells cs e) } : World).cell? ⟨w.heap.size, o, none⟩ = cs[o]? := by
  simp [World.cell?]

theorem below_push (w : World) (o : Obj) : Below w.heap.size w { w with heap := w.heap.push o } :=
  ⟨rfl, rfl, rfl, by simp, fun k hk => by simp [Array.getElem?_push, Nat.ne_of_lt hk]⟩

/-- A new row: its block, and blocks of nothing beside it. -/
theorem newRow_post (nm : Nat) (b : Blk) (d : Heap) (us : Array Value) (e : Nat) (hd : isPh d) (hnm : hget d nm = none) (hβ : ∀ n, n = nm ∨ (∃ c, hget d n = some c) → β n = none)
    (hb : b.live) (ho : b.own = true) (v : AV) (u : Value)
    (hcells : ∀ l : Loc, l.len = b.len → l.es = b.es → VReps (extB β d nm l) b.cl us.toList)
    (hv : VRep (extB β d nm ⟨w.heap.size, 0, us.size, b.len, b.es, true⟩) v u) :
    AddPost β w v ((nm, b) :: d) u { w with heap := w.heap.push (.cells us e) } := by
  let l : Loc := ⟨w.heap.size, 0, us.size, b.len, b.es, true⟩
  have hle : β.le (extB β d nm l) := by
    intro n l' h
    unfold extB
    by_cases hn : n = nm
    · rw [hβ n (.inl hn)] at h; cases h
    · rw [if_neg hn]
      cases hg : hget d n with
      | none => exact h
      | some c => rw [hβ n (.inr ⟨c, hg⟩)] at h; cases h
  have hc := hcells l rfl rfl
  have hcl : b.cl.length = us.size := by simpa using hc.length
  refine ⟨extB β d nm l, hle, below_push _ _, hv, fun n hn => ?_, ?_, ?_⟩
  · unfold extB
    by_cases h : n = nm
    · subst h; rw [hget_cons_self] at hn; cases hn
    · rw [if_neg h]
      rw [hget_cons_ne _ _ (Ne.symm h)] at hn
      rw [hn]
  · intro n c hn
    by_cases h : n = nm
    · subst h
      rw [hget_cons_self] at hn
      cases hn
      refine ⟨hb, ho, l, by unfold extB; rw [if_pos rfl], ⟨ho.symm, rfl, rfl, ?_, fun _ _ => ⟨Nat.le_refl _, ⟨us, e, (0, 0), by simp [l], rfl⟩, fun o _ => frozen_new _ _ _ _⟩, fun _ => by rw [b.cl_length] at hcl; show 0 + b.len * b.es ≤ us.size; omega, fun h => by rw [ho] at h; cases h⟩⟩
      intro j x hj
      obtain ⟨u', hu', hx⟩ := hc.get j hj
      refine ⟨u', ?_, hx⟩
      have := cell_new w us e (0 + j)
      rw [this, Nat.zero_add]; simpa using hu'
    · rw [hget_cons_ne _ _ (Ne.symm h)] at hn
      obtain ⟨κ, rfl⟩ := hd n c hn
      refine ⟨trivial, rfl, phLoc (.arr true κ []), by unfold extB; rw [if_neg h, hn], ⟨rfl, rfl, rfl, fun j x hj => by simp [Blk.cl] at hj, fun _ h => by simp [phLoc] at h, fun _ => by simp [phLoc, Blk.len], fun h => by cases h⟩⟩
  · intro n m c c' l1 l2 hne hn hm h1 h2 h3 h4 heq
    have one : ∀ n c l1, hget ((nm, b) :: d) n = some c → extB β d nm l n = some l1 → 0 < l1.size → n = nm := by
      intro n c l1 hn h1 h3
      by_cases h : n = nm
      · exact h
      · rw [hget_cons_ne _ _ (Ne.symm h)] at hn
        unfold extB at h1
        rw [if_neg h, hn] at h1
        cases h1
        simp [phLoc] at h3
    exact hne ((one n c l1 hn h1 h3).trans (one m c' l2 hm h2 h4).symm)

theorem EK.of_bool {vs : List AV} {x : Bool} (h : EK.bool.of vs = some x) : vs = [.bs x] ∨ vs = [.bl x] := by
  match vs, h with
  | [.bs b], h => cases h; exact .inl rfl
  | [.bl b], h => cases h; exact .inr rfl

theorem EK.of_int {k : IntKind} {vs : List AV} {x : Int} (h : (EK.int k).of vs = some x) : vs = [.int k x] := by
  match vs, h with
  | [.int k' n], h =>
    have h' : (if k' = k then some n else none) = some x := h
    split at h'
    · rename_i e; cases h'; rw [e]
    · cases h'

theorem EK.of_flt {k : FloatKind} {vs : List AV} {x : Fl k} (h : (EK.flt k).of vs = some x) : vs = [.flt k x] := by
  match vs, h with
  | [.flt k' y], h =>
    have h' : (if e : k' = k then some (e ▸ y) else none) = some x := h
    split at h'
    · rename_i e; subst e; cases h'; rfl
    · cases h'

theorem EK.of_cpx {k : FloatKind} {vs : List AV} {x : Fl k × Fl k} (h : (EK.cpx k).of vs = some x) : vs = [.cpx k x.1 x.2] := by
  match vs, h with
  | [.cpx k' y z], h =>
    have h' : (if e : k' = k then some ((e ▸ y, e ▸ z) : Fl k × Fl k) else none) = some x := h
    split at h'
    · rename_i e; subst e; cases h'; rfl
    · cases h'

theorem EK.of_str {vs : List AV} {x : ByteArray} (h : EK.str.of vs = some x) : vs = [.str x] := by
  match vs, h with
  | [.str s], h => cases h; rfl

theorem EK.of_pair {a b : EK} {vs : List AV} {x : a.den × b.den} (h : (EK.pair a b).of vs = some x) : a.of (vs.take a.size) = some x.1 ∧ b.of (vs.drop a.size) = some x.2 := by
  have h' : (match a.of (vs.take a.size), b.of (vs.drop a.size) with | some x, some y => some ((x, y) : a.den × b.den) | _, _ => none) = some x := h
  split at h'
  · rename_i e1 e2; cases h'; exact ⟨e1, e2⟩
  · cases h'

theorem EK.of_rep : ∀ (κ : EK) (us : List Value) (vs : List AV) (x : κ.den), κ.of vs = some x → VReps β vs us → VReps β (κ.cells x) us
  | .bool, us, vs, x, h, hv => by
    rcases EK.of_bool h with rfl | rfl
    · exact hv
    · cases hv with | cons _ u _ s h1 h2 => cases h1; exact .cons _ _ _ _ (.bs _) h2
  | .int k, us, vs, x, h, hv => by rw [EK.of_int h] at hv; exact hv
  | .flt k, us, vs, x, h, hv => by rw [EK.of_flt h] at hv; exact hv
  | .cpx k, us, vs, x, h, hv => by rw [EK.of_cpx h] at hv; exact hv
  | .str, us, vs, x, h, hv => by rw [EK.of_str h] at hv; exact hv
  | .pair a b, us, vs, x, h, hv => by
    obtain ⟨h1, h2⟩ := EK.of_pair h
    have h3 := EK.of_rep a _ _ _ h1 (hv.take a.size)
    have h4 := EK.of_rep b _ _ _ h2 (hv.drop a.size)
    have := h3.append h4
    rwa [List.take_append_drop] at this

theorem chunks_rep (κ : EK) : ∀ (n : Nat) (vs : List AV) (l : List κ.den) (us : List Value), chunks κ n vs = some l → VReps β vs us → VReps β (l.flatMap κ.cells) us
  | 0, [], l, us, h, hv => by cases h; exact hv
  | n + 1, vs, l, us, h, hv => by
    have h' : (match κ.of (vs.take κ.size), chunks κ n (vs.drop κ.size) with | some x, some r => some (x :: r) | _, _ => none) = some l := h
    split at h'
    · rename_i x r e1 e2
      cases h'
      have h3 := EK.of_rep κ _ _ _ e1 (hv.take κ.size)
      have h4 := chunks_rep κ n _ _ _ e2 (hv.drop κ.size)
      have := h3.append h4
      rw [List.take_append_drop] at this
      rw [List.flatMap_cons]; exact this
    · cases h'

theorem chunks_length (κ : EK) : ∀ (n : Nat) (vs : List AV) (l : List κ.den), chunks κ n vs = some l → l.length = n
  | 0, [], l, h => by cases h; rfl
  | n + 1, vs, l, h => by
    have h' : (match κ.of (vs.take κ.size), chunks κ n (vs.drop κ.size) with | some x, some r => some (x :: r) | _, _ => none) = some l := h
    split at h'
    · rename_i x r e1 e2
      cases h'
      rw [List.length_cons, chunks_length κ n _ _ e2]
    · cases h'

/-- nil slices among the cells get names -/
theorem phant_rep (nb : Nat) : ∀ (j : Nat) (l l' : List AV) (d : Heap), phant nb j l = (l', d) →
    isPh d ∧ (∀ n b, hget d n = some b → nb + j ≤ n) ∧ l'.length = l.length ∧
    ∀ (β β' : Bt) (us : List Value), VReps β l us → β.le β' → (∀ n b, hget d n = some b → β' n = some (phLoc b)) → VReps β' l' us := by
  intro j l
  induction l generalizing j with
  | nil =>
    intro l' d h
    simp only [phant, Prod.mk.injEq] at h
    obtain ⟨rfl, rfl⟩ := h
    exact ⟨fun n b h => by simp [hget] at h, fun n b h => by simp [hget] at h, rfl, fun β β' us h _ _ => by cases h; exact .nil⟩
  | cons v r ih =>
    intro l' d h
    have other : ∀ (l1 : List AV) (d1 : Heap), phant nb j r = (l1, d1) → l' = v :: l1 → d = d1 → isPh d ∧ (∀ n b, hget d n = some b → nb + j ≤ n) ∧ l'.length = (v :: r).length ∧
        ∀ (β β' : Bt) (us : List Value), VReps β (v :: r) us → β.le β' → (∀ n b, hget d n = some b → β' n = some (phLoc b)) → VReps β' l' us := by
      intro l1 d1 h1 h2 h3
      subst h2 h3
      obtain ⟨i1, i2, i3, i4⟩ := ih j l1 d h1
      refine ⟨i1, i2, by simp [i3], fun β β' us hv hle hd => ?_⟩
      cases hv with
      | cons _ u _ s hv1 hv2 => exact .cons _ _ _ _ (hv1.mono hle) (i4 _ _ _ hv2 hle hd)
    match v, h, other with
    | .nils (some κ), h, _ =>
      generalize hq : phant nb (j + 1) r = q at *
      obtain ⟨l1, d1⟩ := q
      have h' : ((.slc (nb + j) 0 0 :: l1, (nb + j, .arr true κ []) :: d1) : List AV × Heap) = (l', d) := by
        rw [← h]; unfold phant; rw [hq]
      cases h'
      obtain ⟨i1, i2, i3, i4⟩ := ih (j + 1) l1 d1 hq
      refine ⟨fun n b hb => ?_, fun n b hb => ?_, by simp [i3], fun β β' us hv hle hd => ?_⟩
      · by_cases hn : nb + j = n
        · subst hn; rw [hget_cons_self] at hb; cases hb; exact ⟨κ, rfl⟩
        · rw [hget_cons_ne _ _ hn] at hb; exact i1 n b hb
      · by_cases hn : nb + j = n
        · omega
        · rw [hget_cons_ne _ _ hn] at hb; have := i2 n b hb; omega
      · cases hv with
        | cons _ u _ s hv1 hv2 =>
        refine .cons _ _ _ _ ?_ (i4 _ _ _ hv2 hle (fun n b hb => ?_))
        · cases hv1 with
          | nils _ a =>
          exact .slc _ _ _ (phLoc (.arr true κ [])) _ _ (hd _ _ (hget_cons_self _ _ _)) ⟨Nat.le_refl _, .inl ⟨rfl, fun _ => rfl⟩⟩
        · have := i2 n b hb
          exact hd n b (by rw [hget_cons_ne _ _ (by omega)]; exact hb)
    | .nils none, h, other => exact other _ _ rfl (congrArg Prod.fst h).symm (congrArg Prod.snd h).symm
    | .top, h, other => exact other _ _ rfl (congrArg Prod.fst h).symm (congrArg Prod.snd h).symm
    | .bl _, h, other => exact other _ _ rfl (congrArg Prod.fst h).symm (congrArg Prod.snd h).symm
    | .bs _, h, other => exact other _ _ rfl (congrArg Prod.fst h).symm (congrArg Prod.snd h).symm
    | .int _ _, h, other => exact other _ _ rfl (congrArg Prod.fst h).symm (congrArg Prod.snd h).symm
    | .flt _ _, h, other => exact other _ _ rfl (congrArg Prod.fst h).symm (congrArg Prod.snd h).symm
    | .cpx _ _ _, h, other => exact other _ _ rfl (congrArg Prod.fst h).symm (congrArg Prod.snd h).symm
    | .str _, h, other => exact other _ _ rfl (congrArg Prod.fst h).symm (congrArg Prod.snd h).symm
    | .nilp, h, other => exact other _ _ rfl (congrArg Prod.fst h).symm (congrArg Prod.snd h).symm
    | .ptr _ _ _, h, other => exact other _ _ rfl (congrArg Prod.fst h).symm (congrArg Prod.snd h).symm
    | .slc _ _ _, h, other => exact other _ _ rfl (congrArg Prod.fst h).symm (congrArg Prod.snd h).symm
    | .fn _ _ _, h, other => exact other _ _ rfl (congrArg Prod.fst h).symm (congrArg Prod.snd h).symm
    | .agg _, h, other => exact other _ _ rfl (congrArg Prod.fst h).symm (congrArg Prod.snd h).symm
    | .arv _ _, h, other => exact other _ _ rfl (congrArg Prod.fst h).symm (congrArg Prod.snd h).symm
    | .tup _, h, other => exact other _ _ rfl (congrArg Prod.fst h).symm (congrArg Prod.snd h).symm
end
end Go.Ab
