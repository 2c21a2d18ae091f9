/-
  Appends.
-/
import Derived.Test.YtgmjoehnkannkaaAbWr
import Derived.Laws.Append
namespace Go.Ab
open Go.RowKit

/-- A block is given up for a new name. -/
theorem swap_post {β : Bt} {h : Heap} {w w' : World} {base : Nat} (hr : Rep β h w base) {n nm : Nat} {b b' : Blk} {l l' : Loc} (hn : hget h n = some b) (hlive : b.live) (hl : β n = some l) (ho : b.own = true) (hnm : hget h nm = none)
    (hother : ∀ k, k < w.heap.size → (k = l.blk → l.size = 0) → w'.heap[k]? = w.heap[k]?)
    (hB' : BRep (extB β [] nm l') w' base l' b') (ho' : b'.own = true) (hblk : 0 < l'.size → (l'.blk = l.blk ∧ 0 < l.size) ∨ w.heap.size ≤ l'.blk) :
    β.le (extB β [] nm l') ∧ Rep (extB β [] nm l') (hset h n .dead ++ [(nm, b')]) w' base := by
  have hβ : β nm = none := hr.dom nm hnm
  have hle : β.le (extB β [] nm l') := by
    intro m lm h
    unfold extB
    by_cases e : m = nm
    · subst e; rw [hβ] at h; cases h
    · rw [if_neg e]; exact h
  have hne : n ≠ nm := fun e => by subst e; rw [hn] at hnm; cases hnm
  have hB := hr.blk n b l hn hlive hl
  have get : ∀ m c, hget (hset h n .dead ++ [(nm, b')]) m = some c → (m = nm ∧ c = b') ∨ (m = n ∧ c = .dead) ∨ (m ≠ n ∧ m ≠ nm ∧ hget h m = some c) := by
    intro m c hm
    rw [hget_append] at hm
    by_cases e : n = m
    · subst e
      rw [hget_hset_self h n _ b hn] at hm
      cases hm
      exact .inr (.inl ⟨rfl, rfl⟩)
    · rw [hget_hset_ne h _ e] at hm
      by_cases e2 : m = nm
      · subst e2
        rw [hnm, hget_cons_self] at hm
        cases hm
        exact .inl ⟨rfl, rfl⟩
      · refine .inr (.inr ⟨fun e3 => e e3.symm, e2, ?_⟩)
        cases hg : hget h m with
        | some c' => rw [hg] at hm; exact hm
        | none => rw [hg, hget_cons_ne _ _ (fun e => e2 e.symm)] at hm; cases hm
  have loc' : ∀ m, m ≠ nm → extB β [] nm l' m = β m := fun m e => by unfold extB; rw [if_neg e]; rfl
  have locN : extB β [] nm l' nm = some l' := by unfold extB; rw [if_pos rfl]
  -- the others keep their block
  have keep : ∀ m c lm, m ≠ n → hget h m = some c → c.live → β m = some lm → (c.cl ≠ [] ∨ (c.own = true ∧ 0 < lm.size)) → w'.heap[lm.blk]? = w.heap[lm.blk]? ∧ lm.blk < w.heap.size := by
    intro m c lm hmn hm hc hlm hh
    have hBm := hr.blk m c lm hm hc hlm
    have hblk : lm.blk < w.heap.size := by
      rcases hh with hh | ⟨h1, h2⟩
      · obtain ⟨v, hv⟩ : ∃ v, c.cl[0]? = some v := ⟨c.cl[0]'(List.length_pos_iff.2 hh), List.getElem?_eq_getElem _⟩
        obtain ⟨u, hu, _⟩ := hBm.cells 0 v hv
        exact cell_lt hu
      · obtain ⟨_, ⟨cs, e, fr, h3, _⟩, _⟩ := hBm.mine h1 h2
        exact (Array.getElem?_eq_some_iff.1 h3).1
    refine ⟨hother _ hblk fun e => ?_, hblk⟩
    by_cases hz : l.size = 0
    · exact hz
    · exfalso
      obtain ⟨hbase, _⟩ := hB.mine ho (by omega)
      cases hco : c.own with
      | true =>
        have hs : 0 < lm.size := by
          rcases hh with hh | ⟨_, h2⟩
          · have h1 := hBm.room hco
            have h2 := c.cl_length
            have h3 : 0 < c.cl.length := List.length_pos_iff.2 hh
            rw [hBm.len, hBm.es] at h1
            omega
          · exact h2
        exact hr.sep n m b c l lm (fun e => hmn e.symm) hn hm hlive hc hl hlm (by rw [hB.own, ho]) (by rw [hBm.own, hco]) (by omega) hs e.symm
      | false =>
        rcases hh with hh | ⟨h1, _⟩
        · have := hBm.other hco hh; omega
        · rw [hco] at h1; cases h1
  refine ⟨hle, ⟨fun m hm => ?_, fun m c hm => ?_, fun m c lm hm hc hlm => ?_, fun m m' c c' lm lm' hmm hm hm' hc hc' hlm hlm' o1 o2 s1 s2 => ?_⟩⟩
  · have hmn : m ≠ nm := by
      intro e; subst e
      rw [hget_append, hget_hset_ne h _ hne, hnm, hget_cons_self] at hm; cases hm
    rw [loc' m hmn]
    apply hr.dom
    by_cases e : n = m
    · subst e; rw [hget_append, hget_hset_self h n _ b hn] at hm; cases hm
    · rw [hget_append, hget_hset_ne h _ e] at hm
      cases hg : hget h m with
      | none => rfl
      | some c => rw [hg] at hm; cases hm
  · rcases get m c hm with ⟨rfl, _⟩ | ⟨rfl, _⟩ | ⟨_, h2, h3⟩
    · exact ⟨l', locN⟩
    · exact ⟨l, by rw [loc' _ hne]; exact hl⟩
    · rw [loc' _ h2]; exact hr.loc m c h3
  · rcases get m c hm with ⟨rfl, rfl⟩ | ⟨rfl, rfl⟩ | ⟨h1, h2, h3⟩
    · rw [locN] at hlm; cases hlm; exact hB'
    · exact hc.elim
    · rw [loc' _ h2] at hlm
      refine (hr.blk m c lm h3 hc hlm).below hle (fun j v hj u hu => ?_) (fun hco hs => (keep m c lm h1 h3 hc hlm (.inr ⟨hco, hs⟩)).1)
      have := keep m c lm h1 h3 hc hlm (.inl fun e => by rw [e] at hj; cases hj)
      rw [World.cell?_of_block (w := w) (w' := w') this.1]; exact hu
  · have side : ∀ m c lm, hget (hset h n .dead ++ [(nm, b')]) m = some c → c.live → m ≠ nm → extB β [] nm l' m = some lm → lm.own = true → 0 < lm.size → 0 < l'.size → lm.blk ≠ l'.blk := by
      intro m c lm hm hc hmn hlm o1 s1 s2 e
      rcases get m c hm with ⟨rfl, _⟩ | ⟨_, rfl⟩ | ⟨h1, h2, h3⟩
      · exact hmn rfl
      · exact hc
      · rw [loc' _ h2] at hlm
        have hBm := hr.blk m c lm h3 hc hlm
        obtain ⟨_, hlt⟩ := keep m c lm h1 h3 hc hlm (.inr ⟨by rw [← hBm.own]; exact o1, s1⟩)
        rcases hblk s2 with ⟨h4, h5⟩ | h4
        · exact hr.sep n m b c l lm (fun e => h1 e.symm) hn h3 hlive hc hl hlm (by rw [hB.own, ho]) o1 h5 s1 (by rw [← h4, e])
        · omega
    by_cases e1 : m = nm
    · subst e1
      rw [locN] at hlm; cases hlm
      exact fun e => side m' c' lm' hm' hc' (fun e => hmm e.symm) hlm' o2 s2 s1 e.symm
    · by_cases e2 : m' = nm
      · subst e2
        rw [locN] at hlm'; cases hlm'
        exact side m c lm hm hc hmm hlm o1 s1 s2
      · rw [loc' _ e1] at hlm
        rw [loc' _ e2] at hlm'
        rcases get m c hm with ⟨rfl, _⟩ | ⟨_, rfl⟩ | ⟨_, _, h3⟩
        · exact absurd rfl e1
        · exact hc.elim
        · rcases get m' c' hm' with ⟨rfl, _⟩ | ⟨_, rfl⟩ | ⟨_, _, h4⟩
          · exact absurd rfl e2
          · exact hc'.elim
          · exact hr.sep m m' c c' lm lm' hmm h3 h4 hc hc' hlm hlm' o1 o2 s1 s2

section
variable {P : Program} {Γ : Ctx}

def dNotInt : TypeDesc → Bool
  | .int _ => false
  | _ => true

theorem append_in {ts : Array Nat} {ty st xt e : Nat} {d : TypeDesc} (h0 : ts[0]? = some st) (h1 : ts[1]? = some xt) (hu : P.underlying st = some (.slice e)) (hx : P.underlying xt = some d) (hd : dNotInt d = true)
    {sz sLen sCap n c : Nat} {b a : Option Addr} {news : Array Value} {w w' : World} (hsz : (sizeOf e).run P w = .ok sz w) (hneed : sLen + n ≤ sCap) (hf : (Builtin.firstCells sz n (.slice a n c)).run P w = .ok news w)
    (hst : ∀ p, b = some p → (storeCells (p.add (sLen * sz)) news.toList).run P w = .ok () w') (hno : b = none → w' = w) :
    (Builtin.append_ ts ty #[.slice b sLen sCap, .slice a n c]).run P w = .ok (.slice b (sLen + n) sCap) w' := by
  have hne : ∀ k, d = .int k → False := fun k e => by subst e; exact absurd hd Bool.false_ne_true
  cases b with
  | none =>
    obtain rfl := hno rfl
    simp [Builtin.append_, h0, h1, run_underlying hu, run_underlying hx, hsz, Builtin.lenOf, hneed, hf]
  | some p =>
    have := hst p rfl
    simp [Builtin.append_, h0, h1, run_underlying hu, run_underlying hx, hsz, Builtin.lenOf, hneed, hf, this]

theorem append_out {ts : Array Nat} {ty st xt e : Nat} {d : TypeDesc} {i : TypeInfo} {z : Value} (h0 : ts[0]? = some st) (h1 : ts[1]? = some xt) (hu : P.underlying st = some (.slice e)) (hx : P.underlying xt = some d) (hd : dNotInt d = true)
    (hi : P.info? e = some i) (hzv : i.zero = some z)
    {sLen sCap n c : Nat} {b a : Option Addr} {olds news : Array Value} {w : World} (hneed : ¬ sLen + n ≤ sCap) (hm : sLen + n ≤ 2 ^ 36) (hby : i.bytes ≤ 64)
    (hf : (Builtin.firstCells i.size n (.slice a n c)).run P w.drew = .ok news w.drew) (hfo : (Builtin.firstCells i.size sLen (.slice b sLen sCap)).run P w.drew = .ok olds w.drew) :
    ∃ k, (Builtin.append_ ts ty #[.slice b sLen sCap, .slice a n c]).run P w = .ok (.slice (some ⟨w.heap.size, 0, none⟩) (sLen + n) (sLen + n + k)) (w.drew.alloc (.cells (olds ++ news ++ Builtin.zeroCells z.cells k) e)) := by
  refine ⟨grownCap w (sLen + n) sCap e - (sLen + n), ?_⟩
  have hge := grownCap_ge w (sLen + n) sCap e
  have h63' : ¬ (((sLen + n : Nat) : Int) > IntKind.i64.max) := by simp [IntKind.max, IntKind.bits, IntKind.signed]; omega
  have h48' : ¬ (Builtin.nextslicecap (sLen + n) sCap * i.bytes > 2 ^ 48) := by
    have := nextslicecap_le (need := sLen + n) (old := sCap) (by omega)
    have h2 : Builtin.nextslicecap (sLen + n) sCap * i.bytes ≤ 2 * (2 ^ 36) * 64 := Nat.mul_le_mul (by omega) hby
    omega
  have h63'' : ¬ (9223372036854775807 < (sLen : Int) + (n : Int)) := by omega
  have h48'' : ¬ (281474976710656 < Builtin.nextslicecap (sLen + n) sCap * i.bytes) := by omega
  have hc : sLen + n + (grownCap w (sLen + n) sCap e - (sLen + n)) = grownCap w (sLen + n) sCap e := by omega
  rw [hc]
  have hne : ∀ k, d = .int k → False := fun k e => by subst e; exact absurd hd Bool.false_ne_true
  simp [Builtin.append_, h0, h1, run_underlying hu, run_underlying hx, sizeOf, typeInfo, zeroValue, hi, hzv, Builtin.lenOf, hneed, h63'', h48'', Question.forced, hf, hfo, newRow, grownCap]

theorem EK.cells_cellB : ∀ (κ : EK) (x : κ.den), (κ.cells x).all cellB = true
  | .bool, _ | .int _, _ | .flt _, _ | .cpx _, _ | .str, _ => rfl
  | .pair a b, x => by
    show ((a.cells x.1) ++ (b.cells x.2)).all cellB = true
    rw [List.all_append, EK.cells_cellB a, EK.cells_cellB b]; rfl

theorem flat_cellB (κ : EK) (l : List κ.den) : (l.flatMap κ.cells).all cellB = true := by
  rw [List.all_flatMap]
  exact List.all_eq_true.2 fun x _ => EK.cells_cellB κ x

/-- A slice's elements, read in any world that keeps the cells. -/
theorem elems_run {β : Bt} {h : Heap} {w : World} {base : Nat} (hr : Rep β h w base) {n off len : Nat} {o : Bool} {κ : EK} {l : List κ.den} (hn : hget h n = some (.arr o κ l)) {v : Value} (hv : VRep β (.slc n off len) v) :
    ∃ a cap us, v = .slice a len cap ∧ (sub l off len).length = len ∧ VReps β ((sub l off len).flatMap κ.cells) us ∧
      ∀ w' : World, (∀ p x, w.cell? p = some x → w'.cell? p = some x) → (Builtin.firstCells κ.size len v).run P w' = .ok us.toArray w' := by
  obtain ⟨a, cap, hv', hlen, hc⟩ := slc_cells hr hn hv
  subst hv'
  rcases hc with h0 | ⟨blk, o, ha, hc⟩
  · subst h0
    have hl : sub l off 0 = [] := List.eq_nil_of_length_eq_zero hlen
    refine ⟨a, cap, [], rfl, hlen, by rw [hl]; exact .nil, fun w' _ => ?_⟩
    cases a with
    | none => exact run_firstCells_none w' _ _ _ _
    | some p => exact run_firstCells_some w' κ.size 0 p 0 cap [] (by simp) (fun j v h => by simp at h)
  · subst ha
    obtain ⟨us, h1, h2, h3⟩ := VReps.of_cells (fun j => w.cell? ⟨blk, o + j, none⟩) _ hc
    refine ⟨_, cap, us, rfl, hlen, h3, fun w' hw => ?_⟩
    exact run_firstCells_some w' κ.size len ⟨blk, o, none⟩ len cap us (by rw [h2, flat_length, hlen]) (fun j v hj => by rw [addr_add]; exact hw _ _ (h1 j v hj))

theorem new_run {β : Bt} {h : Heap} {w : World} {base : Nat} (hr : Rep β h w base) {κ : EK} {x : AV} {X : Value} {new : List κ.den}
    (hnew : (match x with
              | .nils _ => some []
              | .slc m off len => match hget h m with
                | some (.arr _ κ' l) => if e : κ' = κ then some (e ▸ sub l off len) else none
                | _ => none
              | _ => none) = some new) (hX : VRep β x X) :
    ∃ a c us, X = .slice a new.length c ∧ VReps β (new.flatMap κ.cells) us ∧ ∀ w' : World, (∀ p v, w.cell? p = some v → w'.cell? p = some v) → (Builtin.firstCells κ.size new.length X).run P w' = .ok us.toArray w' := by
  split at hnew
  · cases hnew
    cases hX with
    | nils _ a =>
    refine ⟨a, 0, [], rfl, .nil, fun w' _ => ?_⟩
    cases a with
    | none => exact run_firstCells_none w' _ _ _ _
    | some p => exact run_firstCells_some w' κ.size 0 p 0 0 [] (by simp) (fun j v h => by simp at h)
  · rename_i m off len
    split at hnew
    · rename_i o κ' l hm
      split at hnew
      · rename_i e
        subst e
        cases hnew
        obtain ⟨a, cap, us, h1, h2, h3, h4⟩ := elems_run (P := P) hr hm hX
        have h2' : (Eq.refl κ' ▸ sub l off len : List κ'.den).length = len := h2
        rw [h2']
        exact ⟨a, cap, us, h1, h3, h4⟩
      · cases hnew
    · cases hnew
  · cases hnew

theorem dNot {t : TyI} {d : TypeDesc} (h : DOk t.d d) (hn : t.notInt = true) : dNotInt d = true := by
  unfold TyI.notInt at hn
  cases d with
  | int k =>
    cases ht : t.d <;> rw [ht] at h hn <;> first | exact h.elim | cases hn
  | _ => rfl

/-- The in-place place of an appended row. -/
theorem brep_own {β : Bt} {w : World} {base : Nat} {κ : EK} {l : List κ.den} {us : List Value} {loc : Loc} (ho : loc.own = true) (hlen : loc.len = l.length) (hes : loc.es = κ.size) (hus : VReps β (l.flatMap κ.cells) us)
    (hc : ∀ (j : Nat) u, us[j]? = some u → w.cell? ⟨loc.blk, loc.off + j, none⟩ = some u) (hm : OwnAt w base loc) (hroom : loc.off + loc.len * loc.es ≤ loc.size) : BRep β w base loc (.arr true κ l) :=
  ⟨ho, hlen, hes, fun j v hj => let ⟨u, h1, h2⟩ := hus.get j hj; ⟨u, hc j u h1, h2⟩, fun _ => hm, fun _ => hroom, fun h => by cases h⟩

theorem one_new {β : Bt} {w w' : World} {nm : Nat} {b : Blk} {l' : Loc} {v : AV} {u : Value} (hβ : β nm = none) (hbel : Below w.heap.size w w') (hlive : b.live) (ho : b.own = true) (hB : BRep (extB β [] nm l') w' w.heap.size l' b) (hv : VRep (extB β [] nm l') v u) :
    AddPost β w v [(nm, b)] u w' := by
  have hg : ∀ n c, hget [(nm, b)] n = some c → n = nm ∧ c = b := by
    intro n c h
    by_cases e : nm = n
    · subst e; rw [hget_cons_self] at h; cases h; exact ⟨rfl, rfl⟩
    · rw [hget_cons_ne _ _ e] at h; cases h
  have hN : extB β [] nm l' nm = some l' := by unfold extB; rw [if_pos rfl]
  refine ⟨extB β [] nm l', ?_, hbel, hv, fun n hn => ?_, ⟨fun n c h => ?_, fun n m c c' l l' hne h1 h2 => ?_⟩⟩
  · intro m lm h
    unfold extB
    by_cases e : m = nm
    · subst e; rw [hβ] at h; cases h
    · rw [if_neg e]; exact h
  · have : n ≠ nm := fun e => by subst e; rw [hget_cons_self] at hn; cases hn
    unfold extB; rw [if_neg this]; rfl
  · obtain ⟨rfl, rfl⟩ := hg n c h
    exact ⟨hlive, ho, l', hN, hB⟩
  · obtain ⟨rfl, rfl⟩ := hg n c h1
    obtain ⟨rfl, rfl⟩ := hg m c' h2
    exact absurd rfl hne

theorem below_drew (w : World) (k : Nat) : Below k w w.drew := ⟨rfl, rfl, rfl, Nat.le_refl _, fun _ _ => rfl⟩

/-- a new row with room behind it -/
theorem grown_brep {β' : Bt} {w : World} {base : Nat} {κ : EK} {L : List κ.den} {us rest : List Value} {e : Nat} (hbase : base ≤ w.heap.size) (hus : VReps β' (L.flatMap κ.cells) us) :
    BRep β' (w.drew.alloc (.cells (us.toArray ++ rest.toArray) e)) base ⟨w.heap.size, 0, us.length + rest.length, L.length, κ.size, true⟩ (.arr true κ L) := by
  have hul : us.length = L.length * κ.size := by rw [← hus.length, flat_length]
  have hcell : ∀ o, (w.drew.alloc (.cells (us.toArray ++ rest.toArray) e)).cell? ⟨w.heap.size, o, none⟩ = (us.toArray ++ rest.toArray)[o]? := fun o => cell_new w.drew _ e o
  refine brep_own rfl rfl rfl hus (fun j u hj => ?_) (fun _ => ⟨hbase, ⟨us.toArray ++ rest.toArray, e, (0, 0), ?_, by simp⟩, fun o _ => frozen_new w.drew _ e o⟩) (by simp only; omega)
  · simp only [Nat.zero_add, hcell]
    obtain ⟨h1, _⟩ := List.getElem?_eq_some_iff.1 hj
    rw [Array.getElem?_append_left (by simpa using h1)]
    simpa using hj
  · exact heap_alloc_new w.drew _

theorem below_alloc (w : World) (o : Obj) : Below w.heap.size w (w.drew.alloc o) := (below_drew w _).trans (below_push w.drew o)

theorem appendA_run {β : Bt} {h : Heap} {w : World} {base : Nat} (hΓ : TysOk P Γ) (hr : Rep β h w base) (hb : base ≤ w.heap.size) (nm ty : Nat) (ts : Array Nat) (s x : AV) (S X : Value) (hS : VRep β s S) (hX : VRep β x X)
    (r : AV × Heap) (he : (appendA Γ h nm ts.toList s x).den = some r) : ∃ u w', (Builtin.append_ ts ty #[S, X]).run P w = .ok u w' ∧ Post β w base r.1 r.2 u w' := by
  unfold appendA at he
  split at he
  · rename_i st xt more hts
    have h0 : ts[0]? = some st := by rw [← Array.getElem?_toList, hts]; rfl
    have h1 : ts[1]? = some xt := by rw [← Array.getElem?_toList, hts]; rfl
    split at he
    · rename_i e _ _ _ _ hst
      obtain ⟨d, _, hd, hu⟩ := (hΓ.ty _ _ hst).under
      obtain rfl := dok_slc hd
      split at he
      · rename_i te tx hte htx
        obtain ⟨dx, _, hdx, hux⟩ := (hΓ.ty _ _ htx).under
        obtain ⟨info, hi, hisz, hiby, z, hz, hzs, hzr⟩ := (hΓ.ty _ _ hte).ex
        have hsizeOf := (hΓ.ty _ _ hte).sizeOf w
        split at he
        · rename_i κ hκ
          split at he
          · rename_i hc
            obtain ⟨hc1, hc2, hc3, hc4⟩ := hc
            have hnot := dNot hdx hc4
            dsimp only at he
            generalize hfr : (!(hget h nm).isNone) = fr at he
            cases fr with
            | true => exact (den_fail he).elim
            | false =>
            have hnm : hget h nm = none := by
              cases hg : hget h nm with
              | none => rfl
              | some c => rw [hg] at hfr; cases hfr
            have hβ : β nm = none := hr.dom nm hnm
            simp only [cond_false] at he
            split at he
            · exact (den_fail he).elim
            · rename_i new hnew
              obtain ⟨a, c, us, rfl, hus, hrun⟩ := new_run (P := P) hr hnew hX
              have hul : us.length = new.length * κ.size := by rw [← hus.length, flat_length]
              have kept : ∀ p v, w.cell? p = some v → w.drew.cell? p = some v := fun p v h => h
              have hz36 : maxA = 2 ^ 36 := rfl
              have hone := cellsB_one hus (flat_cellB κ new)
              rw [hc1] at hsizeOf
              have hisz' : info.size = κ.size := by rw [hisz, hc1]
              split at he
              · -- nothing there
                cases hS with
                | nils _ a0 =>
                obtain ⟨hm, he⟩ := den_ifb he
                simp only [decide_eq_true_eq] at hm
                have := den_ret he
                subst this
                by_cases hz0 : new.length = 0
                · have hnew0 : new = [] := List.eq_nil_of_length_eq_zero hz0
                  subst hnew0
                  have hus0 : us = [] := List.eq_nil_of_length_eq_zero (by rw [hul]; simp)
                  subst hus0
                  refine ⟨_, w, append_in (P := P) h0 h1 hu hux hnot hsizeOf (by simp) (hrun w fun _ _ h => h) (fun p _ => rfl) (fun _ => rfl), ?_⟩
                  refine add_post hr hb (one_new (l' := ⟨0, 0, 0, 0, κ.size, true⟩) hβ (Below.refl _ _) trivial rfl ?_ ?_)
                  · exact brep_own rfl rfl rfl (us := []) .nil (fun j u h => by simp at h) (fun h => absurd h (by simp)) (by simp)
                  · exact .slc nm 0 0 ⟨0, 0, 0, 0, κ.size, true⟩ _ _ (by unfold extB; rw [if_pos rfl]) ⟨by simp, .inl ⟨rfl, fun _ => by simp⟩⟩
                · obtain ⟨k, hk⟩ := append_out (P := P) (ty := ty) (w := w) (olds := #[]) (b := a0) (sLen := 0) (sCap := 0) (n := new.length) h0 h1 hu hux hnot hi hz (by omega) (by omega) (by rw [hiby]; exact hc3) (by rw [hisz']; exact hrun _ kept) (by
                    cases a0 with
                    | none => exact run_firstCells_none w.drew _ _ _ _
                    | some p => exact run_firstCells_some w.drew info.size 0 p 0 0 [] (by simp) (fun j v h => by simp at h))
                  rw [Nat.zero_add] at hk
                  refine ⟨_, _, hk, ?_⟩
                  have hex : (#[] ++ us.toArray ++ Builtin.zeroCells z.cells k) = us.toArray ++ (Builtin.zeroCells z.cells k).toList.toArray := by simp
                  rw [hex]
                  have hlen : (Builtin.zeroCells z.cells k).toList.length = k * κ.size := by rw [Array.length_toList, size_zeroCells, hzs, hc1]
                  refine add_post hr hb (one_new (l' := ⟨w.heap.size, 0, us.length + (Builtin.zeroCells z.cells k).toList.length, new.length, κ.size, true⟩) hβ (below_alloc w _) trivial rfl ?_ ?_)
                  · exact grown_brep (Nat.le_refl _) (hus.mono (fun m lm h => by unfold extB; by_cases e : m = nm; (subst e; rw [hβ] at h; cases h); rw [if_neg e]; exact h))
                  · refine .slc nm 0 new.length ⟨w.heap.size, 0, us.length + (Builtin.zeroCells z.cells k).toList.length, new.length, κ.size, true⟩ _ _ (by unfold extB; rw [if_pos rfl]) ⟨by simp, .inr ⟨by simp, by omega, fun _ => ?_⟩⟩
                    simp only [hlen, hul, Nat.zero_add]
                    rw [← Nat.add_mul]
                    exact Nat.le_refl _
              · rename_i n off len
                split at he
                · rename_i κ' l hn
                  split at he
                  · rename_i e'
                    subst e'
                    obtain ⟨hm, he⟩ := den_ifb he
                    simp only [decide_eq_true_eq] at hm
                    have := den_ret he
                    subst this
                    obtain ⟨a0, cap, os, hSe, hsl, hos, hold⟩ := elems_run (P := P) hr hn hS
                    subst hSe
                    cases hS with
                    | slc _ _ _ l0 _ _ hl hok =>
                    have hB := hr.blk n _ l0 hn trivial hl
                    have hes : l0.es = κ'.size := hB.es
                    have hown : l0.own = true := hB.own
                    have hpos := κ'.size_pos
                    have hosl : os.length = len * κ'.size := by rw [← hos.length, flat_length, hsl]
                    have hLen : (sub l off len ++ new).length = len + new.length := by rw [List.length_append, hsl]
                    have hall : VReps β ((sub l off len ++ new).flatMap κ'.cells) (os ++ us) := by rw [List.flatMap_append]; exact hos.append hus
                    have hle : ∀ l', β.le (extB β [] nm l') := fun l' m lm h => by
                      unfold extB
                      by_cases e : m = nm
                      · subst e; rw [hβ] at h; cases h
                      · rw [if_neg e]; exact h
                    have hN : ∀ l', extB β [] nm l' nm = some l' := fun l' => by unfold extB; rw [if_pos rfl]
                    show ∃ u w', _ ∧ Post β w base (.slc nm 0 (sub l off len ++ new).length) (hset h n .dead ++ [(nm, .arr true κ' (sub l off len ++ new))]) u w'
                    by_cases hroom : len + new.length ≤ cap
                    · obtain ⟨hk1, hk2⟩ := hok
                      rcases hk2 with ⟨rfl, hcap⟩ | ⟨rfl, hk3, hk4⟩
                      · -- no room, and nothing comes
                        obtain rfl := hcap hown
                        have hnew0 : new = [] := List.eq_nil_of_length_eq_zero (by omega)
                        subst hnew0
                        have hus0 : us = [] := List.eq_nil_of_length_eq_zero (by rw [hul]; simp)
                        subst hus0
                        have hs0 : sub l off 0 = [] := List.eq_nil_of_length_eq_zero hsl
                        refine ⟨_, w, append_in (P := P) h0 h1 hu hux hnot hsizeOf hroom (hrun w fun _ _ h => h) (fun p _ => rfl) (fun _ => rfl), ?_⟩
                        obtain ⟨g1, g2⟩ := swap_post (l' := ⟨0, 0, 0, 0, κ'.size, true⟩) (b' := .arr true κ' (sub l off 0 ++ [])) hr hn trivial hl rfl hnm (w' := w) (fun _ _ _ => rfl)
                          (by rw [hs0]; exact brep_own rfl rfl rfl (us := []) .nil (fun j u h => by simp at h) (fun h => absurd h (by simp)) (by simp)) rfl (fun h => absurd h (by simp))
                        refine ⟨_, g1, g2, ?_, Below.refl _ _⟩
                        rw [hLen]
                        exact .slc nm 0 0 ⟨0, 0, 0, 0, κ'.size, true⟩ _ _ (hN _) ⟨by simp, .inl ⟨rfl, fun _ => rfl⟩⟩
                      · -- in place
                        have hk4 := hk4 hown
                        rw [hes] at hk4
                        have hend : l0.off + off * κ'.size + len * κ'.size + us.length ≤ l0.size := by
                          rw [hul]
                          have : (off + (len + new.length)) * κ'.size ≤ (off + cap) * κ'.size := Nat.mul_le_mul_right _ (by omega)
                          rw [Nat.add_mul, Nat.add_mul] at this
                          omega
                        have hlocOk : l0.off + off * κ'.size + (len + new.length) * κ'.size ≤ l0.size := by rw [Nat.add_mul, ← hul]; omega
                        have mine : 0 < l0.size → base ≤ l0.blk ∧ (∃ cs e fr, w.heap[l0.blk]? = some (.cells cs e fr) ∧ cs.size = l0.size) ∧ ∀ o, o < l0.size → w.frozen? ⟨l0.blk, o, none⟩ = false := fun h => hB.mine rfl h
                        have hexi : ∀ o, o < l0.size → (w.cell? ⟨l0.blk, o, none⟩).isSome = true := by
                          intro o ho
                          obtain ⟨_, ⟨cs, e, fr, g1, g2⟩, _⟩ := mine (by omega)
                          rw [cell_of_row w l0.blk o cs e fr g1, Array.getElem?_eq_getElem (by omega)]; rfl
                        have hst := run_storeCells_cells (P := P) l0.blk (l0.off + off * κ'.size + len * κ'.size) us 0 w (fun j hj => hexi _ (by omega)) (fun j hj => (mine (by omega)).2.2 _ (by omega)) hone
                        rw [hes]
                        rw [hes] at hold
                        refine ⟨_, w.setCells l0.blk (l0.off + off * κ'.size + len * κ'.size) us, append_in (P := P) h0 h1 hu hux hnot hsizeOf hroom (hrun w fun _ _ h => h) (fun p hp => ?_) (fun h => by cases h), ?_⟩
                        · cases hp
                          rw [addr_add]
                          simpa using hst
                        · obtain ⟨_, _, _, hhs, hother, hself⟩ := setCells_heap l0.blk us (l0.off + off * κ'.size + len * κ'.size) w
                          obtain ⟨U, hU1, hU2, hU3⟩ := VReps.of_cells (fun j => w.cell? ⟨l0.blk, l0.off + off * κ'.size + j, none⟩) ((sub l off len).flatMap κ'.cells) (fun j x hj => by
                            rw [sub_flat, List.getElem?_take] at hj
                            split at hj
                            · rw [List.getElem?_drop] at hj
                              obtain ⟨u, hu, hv⟩ := hB.cells (off * κ'.size + j) x hj
                              exact ⟨u, by rw [Nat.add_assoc]; exact hu, hv⟩
                            · cases hj)
                          have hUl : U.length = len * κ'.size := by rw [hU2, flat_length, hsl]
                          have hall' : VReps β ((sub l off len ++ new).flatMap κ'.cells) (U ++ us) := by rw [List.flatMap_append]; exact hU3.append hus
                          have hg : β.le (extB β [] nm ⟨l0.blk, l0.off + off * κ'.size, l0.size, len + new.length, κ'.size, true⟩) ∧ Rep (extB β [] nm ⟨l0.blk, l0.off + off * κ'.size, l0.size, len + new.length, κ'.size, true⟩) (hset h n .dead ++ [(nm, .arr true κ' (sub l off len ++ new))]) (w.setCells l0.blk (l0.off + off * κ'.size + len * κ'.size) us) base := by
                            refine swap_post hr hn trivial hl rfl hnm (fun k hk hz => ?_) (brep_own rfl hLen.symm rfl (hall'.mono (hle _)) (fun j u hj => ?_) (fun hs => ?_) hlocOk) rfl (fun h => .inl ⟨rfl, h⟩)
                            · by_cases e : k = l0.blk
                              · have hz := hz e
                                have : us = [] := List.eq_nil_of_length_eq_zero (by omega)
                                subst this
                                rfl
                              · exact hother k e
                            · simp only
                              by_cases hj2 : j < U.length
                              · rw [List.getElem?_append_left hj2] at hj
                                rw [World.cell?_setCells_out l0.blk us _ w _ (fun _ _ => by simp only; omega)]
                                exact hU1 j u hj
                              · rw [List.getElem?_append_right (by omega)] at hj
                                obtain ⟨h3, h4⟩ := List.getElem?_eq_some_iff.1 hj
                                have := World.cell?_setCells_in l0.blk us (l0.off + off * κ'.size + len * κ'.size) w (fun i hi => hexi _ (by omega)) (j - U.length) h3
                                rw [show l0.off + off * κ'.size + len * κ'.size + (j - U.length) = l0.off + off * κ'.size + j by omega] at this
                                rw [this, h4]
                            · obtain ⟨q1, ⟨cs, e, fr, q2, q3⟩, q4⟩ := mine hs
                              obtain ⟨cs', q5, q6⟩ := hself _ _ _ q2
                              exact ⟨q1, ⟨cs', e, fr, q5, by rw [q6, q3]⟩, fun o ho => by rw [World.frozen?_setCells]; exact q4 o ho⟩
                          obtain ⟨g1, g2⟩ := hg
                          refine ⟨_, g1, g2, ?_, ?_⟩
                          · rw [hLen]
                            refine .slc nm 0 _ ⟨l0.blk, l0.off + off * κ'.size, l0.size, len + new.length, κ'.size, true⟩ _ _ (hN _) ⟨by simp, .inr ⟨by simp, hroom, fun _ => ?_⟩⟩
                            simp only [Nat.zero_add]
                            rw [Nat.add_mul] at hk4
                            exact (Nat.add_assoc _ _ _).symm ▸ hk4
                          · by_cases hz : l0.size = 0
                            · have : us = [] := List.eq_nil_of_length_eq_zero (by omega)
                              subst this
                              exact Below.refl _ _
                            · exact below_setCells w _ _ _ (mine (by omega)).1
                    · -- elsewhere
                      obtain ⟨k, hk⟩ := append_out (P := P) (ty := ty) (w := w) (b := a0) h0 h1 hu hux hnot hi hz hroom (by omega) (by rw [hiby]; exact hc3) (by rw [hisz']; exact hrun _ kept) (by rw [hisz']; exact hold _ kept)
                      refine ⟨_, _, hk, ?_⟩
                      have hex : (os.toArray ++ us.toArray ++ Builtin.zeroCells z.cells k) = (os ++ us).toArray ++ (Builtin.zeroCells z.cells k).toList.toArray := by simp
                      rw [hex]
                      have hlen : (Builtin.zeroCells z.cells k).toList.length = k * κ'.size := by rw [Array.length_toList, size_zeroCells, hzs, hc1]
                      obtain ⟨g1, g2⟩ := swap_post (l' := ⟨w.heap.size, 0, (os ++ us).length + (Builtin.zeroCells z.cells k).toList.length, (sub l off len ++ new).length, κ'.size, true⟩) (b' := .arr true κ' (sub l off len ++ new)) hr hn trivial hl rfl hnm
                        (w' := w.drew.alloc (.cells ((os ++ us).toArray ++ (Builtin.zeroCells z.cells k).toList.toArray) e)) (fun q hq _ => heap_alloc_old w.drew _ hq) (grown_brep hb (hall.mono (hle _))) rfl (fun _ => .inr (Nat.le_refl _))
                      refine ⟨_, g1, g2, ?_, (below_alloc w _).mono hb⟩
                      refine hLen ▸ .slc nm 0 _ ⟨w.heap.size, 0, (os ++ us).length + (Builtin.zeroCells z.cells k).toList.length, (sub l off len ++ new).length, κ'.size, true⟩ _ _ (hN _) ⟨by simp, .inr ⟨by simp, by omega, fun _ => ?_⟩⟩
                      simp only [hlen, List.length_append, hosl, hul, hsl, Nat.zero_add]
                      rw [← Nat.add_mul, ← Nat.add_mul]
                      exact Nat.le_refl _
                  · exact (den_fail he).elim
                · exact (den_fail he).elim
              · exact (den_fail he).elim
          · exact (den_fail he).elim
        · exact (den_fail he).elim
      · exact (den_fail he).elim
    · exact (den_fail he).elim
  · exact (den_fail he).elim
end
end Go.Ab
