/-
  The operations that turn memory: stores and appends.
-/
import Derived.Test.YtgmjoehnkannkaaAbOpA
import Derived.Laws.IdiomCopy
namespace Go.Ab
open Go.RowKit

/-- Behind any operation. -/
def Post (β : Bt) (w : World) (base : Nat) (v : AV) (h' : Heap) (u : Value) (w' : World) : Prop :=
  ∃ β', β.le β' ∧ Rep β' h' w' base ∧ VRep β' v u ∧ Below base w w'

theorem hget_append (h d : Heap) (n : Nat) : hget (h ++ d) n = (hget h n).or (hget d n) := by
  induction h with
  | nil => rfl
  | cons p r ih =>
    obtain ⟨m, b⟩ := p
    simp only [List.cons_append, hget]
    cases Nat.beq m n
    · exact ih
    · rfl

theorem hget_hset_self (h : Heap) (n : Nat) (b : Blk) (c : Blk) (hn : hget h n = some c) : hget (hset h n b) n = some b := by
  induction h with
  | nil => cases hn
  | cons p r ih =>
    obtain ⟨m, b'⟩ := p
    unfold hset
    cases hb : Nat.beq m n with
    | true => simp only [cond_true, hget, hb]
    | false =>
      simp only [hget, hb, cond_false] at hn
      simp only [cond_false, hget, hb]
      exact ih hn

theorem hget_hset_ne (h : Heap) {n m : Nat} (b : Blk) (hne : n ≠ m) : hget (hset h n b) m = hget h m := by
  induction h with
  | nil => rfl
  | cons p r ih =>
    obtain ⟨k, b'⟩ := p
    unfold hset
    cases hb : Nat.beq k n with
    | true =>
      have := Nat.eq_of_beq_eq_true hb
      subst this
      simp only [cond_true]
      rw [hget_cons_ne _ _ hne, hget_cons_ne _ _ hne]
    | false =>
      simp only [cond_false, hget]
      rw [ih]

theorem BRep.below {β β' : Bt} {w w' : World} {base : Nat} {l : Loc} {b : Blk} (h : BRep β w base l b) (hβ : β.le β') (hc : ∀ j v, b.cl[j]? = some v → ∀ u, w.cell? ⟨l.blk, l.off + j, none⟩ = some u → w'.cell? ⟨l.blk, l.off + j, none⟩ = some u)
    (ho : b.own = true → 0 < l.size → w'.heap[l.blk]? = w.heap[l.blk]?) : BRep β' w' base l b := by
  refine ⟨h.own, h.len, h.es, fun j v hj => ?_, fun hb hs => ?_, h.room, h.other⟩
  · obtain ⟨u, hu, hv⟩ := h.cells j v hj
    exact ⟨u, hc j v hj u hu, hv.mono hβ⟩
  · obtain ⟨h1, h2, h3⟩ := h.mine hb hs
    refine ⟨h1, by rw [ho hb hs]; exact h2, fun o hlt => ?_⟩
    rw [World.frozen?_of_block (w := w) (ho hb hs)]; exact h3 o hlt

theorem BRep.base_le {β : Bt} {w : World} {base base' : Nat} {l : Loc} {b : Blk} (h : BRep β w base' l b) (hb : base ≤ base') (ho : b.own = true) : BRep β w base l b :=
  ⟨h.own, h.len, h.es, h.cells, fun ho' hs => let ⟨h1, h2⟩ := h.mine ho' hs; ⟨by omega, h2⟩, h.room, fun h' => by rw [ho] at h'; cases h'⟩

/-- An operation that turns nothing that was there. -/
theorem add_post {β : Bt} {h d : Heap} {w w' : World} {base : Nat} {v : AV} {u : Value} (hr : Rep β h w base) (hb : base ≤ w.heap.size) (hp : AddPost β w v d u w') : Post β w base v (h ++ d) u w' := by
  obtain ⟨β', hle, hbel, hv, hout, hnew⟩ := hp
  have hcell : ∀ {p : Addr} {x : Value}, w.cell? p = some x → w'.cell? p = some x := fun {p x} hx => by rw [hbel.cell (cell_lt hx)]; exact hx
  have oldNew : ∀ n b, hget (h ++ d) n = some b → hget h n = some b ∨ (hget h n = none ∧ hget d n = some b) := by
    intro n b hn
    rw [hget_append] at hn
    cases hg : hget h n with
    | some c => rw [hg] at hn; exact .inl hn
    | none => rw [hg] at hn; exact .inr ⟨rfl, hn⟩
  have same : ∀ n l l0, β n = some l0 → β' n = some l → l0 = l := fun n l l0 h1 h2 => by have := hle _ _ h1; rw [h2] at this; cases this; rfl
  have oldB : ∀ n b l, hget h n = some b → b.live → β' n = some l → BRep β w base l b ∧ BRep β' w' base l b ∧ β n = some l := by
    intro n b l hn hlive hl
    obtain ⟨l0, hl0⟩ := hr.loc n b hn
    obtain rfl := same n l l0 hl0 hl
    have hB := hr.blk n b l0 hn hlive hl0
    refine ⟨hB, hB.below hle (fun j v hj u hu => hcell hu) (fun ho hs => ?_), hl0⟩
    obtain ⟨_, ⟨cs, e, fr, hcs, _⟩, _⟩ := hB.mine ho hs
    exact hbel.block _ (Array.getElem?_eq_some_iff.1 hcs).1
  have oldLt : ∀ n b l, hget h n = some b → b.live → β' n = some l → l.own = true → 0 < l.size → l.blk < w.heap.size := by
    intro n b l hn hlive hl ho hs
    obtain ⟨hB, _, _⟩ := oldB n b l hn hlive hl
    obtain ⟨_, ⟨cs, e, fr, hcs, _⟩, _⟩ := hB.mine (hB.own ▸ ho) hs
    exact (Array.getElem?_eq_some_iff.1 hcs).1
  have newGe : ∀ n b l, hget d n = some b → β' n = some l → 0 < l.size → w.heap.size ≤ l.blk := by
    intro n b l hn hl hs
    obtain ⟨_, ho, l0, hl0, hB⟩ := hnew.blk n b hn
    rw [hl] at hl0; cases hl0
    exact (hB.mine ho hs).1
  refine ⟨β', hle, ⟨fun n hn => ?_, fun n b hn => ?_, fun n b l hn hlive hl => ?_, ?_⟩, hv, hbel.mono hb⟩
  · rw [hget_append] at hn
    cases hg : hget h n with
    | some c => rw [hg] at hn; cases hn
    | none => rw [hg] at hn; rw [hout n hn]; exact hr.dom n hg
  · rcases oldNew n b hn with h1 | ⟨_, h1⟩
    · obtain ⟨l0, hl0⟩ := hr.loc n b h1; exact ⟨l0, hle _ _ hl0⟩
    · obtain ⟨_, _, l, hl, _⟩ := hnew.blk n b h1; exact ⟨l, hl⟩
  · rcases oldNew n b hn with h1 | ⟨_, h1⟩
    · exact (oldB n b l h1 hlive hl).2.1
    · obtain ⟨_, ho, l0, hl0, hB⟩ := hnew.blk n b h1
      rw [hl] at hl0; cases hl0
      exact hB.base_le hb ho
  · intro n m b b' l l' hnm hn hm hlv hlv' hl hl' ho ho' hs hs'
    rcases oldNew n b hn with h1 | ⟨_, h1⟩
    · rcases oldNew m b' hm with h2 | ⟨_, h2⟩
      · exact hr.sep n m b b' l l' hnm h1 h2 hlv hlv' (oldB n b l h1 hlv hl).2.2 (oldB m b' l' h2 hlv' hl').2.2 ho ho' hs hs'
      · have := oldLt n b l h1 hlv hl ho hs
        have := newGe m b' l' h2 hl' hs'
        omega
    · rcases oldNew m b' hm with h2 | ⟨_, h2⟩
      · have := oldLt m b' l' h2 hlv' hl' ho' hs'
        have := newGe n b l h1 hl hs
        omega
      · exact hnew.sep n m b b' l l' hnm h1 h2 hl hl' hs hs'

/-! ### Writing a row -/
theorem setCells_heap (b : Nat) : ∀ (vs : List Value) (o : Nat) (w : World), (w.setCells b o vs).os = w.os ∧ (w.setCells b o vs).tape = w.tape ∧ (w.setCells b o vs).output = w.output ∧ (w.setCells b o vs).heap.size = w.heap.size ∧
    (∀ k, k ≠ b → (w.setCells b o vs).heap[k]? = w.heap[k]?) ∧ ∀ cs e fr, w.heap[b]? = some (.cells cs e fr) → ∃ cs', (w.setCells b o vs).heap[b]? = some (.cells cs' e fr) ∧ cs'.size = cs.size
  | [], o, w => ⟨rfl, rfl, rfl, rfl, fun _ _ => rfl, fun cs e fr h => ⟨cs, h, rfl⟩⟩
  | v :: r, o, w => by
    obtain ⟨h1, h2, h3, h4, h5, h6⟩ := setCells_heap b r (o + 1) (w.setCell ⟨b, o, none⟩ v)
    rw [World.setCells]
    refine ⟨h1, h2, h3, by rw [h4]; simp [World.setCell], fun k hk => ?_, fun cs e fr h => ?_⟩
    · rw [h5 k hk]; exact Below.heap_setCell _ _ _ _ hk
    · have : (w.setCell ⟨b, o, none⟩ v).heap[b]? = some (.cells (cs.setIfInBounds o v) e fr) := by
        simp [World.setCell, Array.getElem?_modify, h]
      obtain ⟨cs', h7, h8⟩ := h6 _ _ _ this
      exact ⟨cs', h7, by rw [h8]; simp⟩

theorem below_setCells {base : Nat} (w : World) (b o : Nat) (vs : List Value) (hb : base ≤ b) : Below base w (w.setCells b o vs) := by
  obtain ⟨h1, h2, h3, h4, h5, _⟩ := setCells_heap b vs o w
  exact ⟨h1, h2, h3, by rw [h4]; exact Nat.le_refl _, fun k hk => h5 k (by omega)⟩

theorem cellB_one {β : Bt} {v : AV} {u : Value} (h : VRep β v u) (hc : cellB v = true) : u.oneCell' = true := by
  cases h <;> first | rfl | cases hc

theorem cellsB_one {β : Bt} : ∀ {l : List AV} {us : List Value}, VReps β l us → l.all cellB = true → ∀ u ∈ us, u.oneCell' = true
  | _, _, .nil, _, u, hu => by cases hu
  | _, _, .cons v u0 r s h1 h2, hc, u, hu => by
    simp only [List.all_cons, Bool.and_eq_true] at hc
    rcases List.mem_cons.1 hu with rfl | hu
    · exact cellB_one h1 hc.1
    · exact cellsB_one h2 hc.2 u hu

theorem VReps.split {β : Bt} : ∀ (a : List AV) {b : List AV} {us : List Value}, VReps β (a ++ b) us → ∃ u1 u2, us = u1 ++ u2 ∧ VReps β a u1 ∧ VReps β b u2
  | [], _, us, h => ⟨[], us, rfl, .nil, h⟩
  | v :: r, _, _, h => by
    cases h with
    | cons _ u _ s h1 h2 =>
    obtain ⟨u1, u2, rfl, h3, h4⟩ := VReps.split r h2
    exact ⟨u :: u1, u2, rfl, .cons _ _ _ _ h1 h3, h4⟩

theorem EK.upd_rep {β : Bt} (κ : EK) (x y : κ.den) (c : Nat) (vs : List AV) (hc : c + vs.length ≤ κ.size) (he : κ.upd x c vs = some y) {us : List Value} (h : VReps β (splice (κ.cells x) c vs) us) : VReps β (κ.cells y) us := by
  have scal : κ.size = 1 → vs ≠ [] → κ.of vs = some y → VReps β (κ.cells y) us := by
    intro h1 hv he2
    cases vs with
    | nil => exact absurd rfl hv
    | cons v r =>
      simp only [List.length_cons] at hc
      have hc0 : c = 0 := by omega
      have hr : r = [] := List.eq_nil_of_length_eq_zero (by omega)
      subst hc0 hr
      refine EK.of_rep κ _ _ _ he2 ?_
      have : splice (κ.cells x) 0 [v] = [v] := by
        unfold splice
        rw [List.drop_eq_nil_of_le (by rw [EK.cells_length, h1]; simp)]
        rfl
      rw [this] at h
      exact h
  cases κ with
  | pair a b => exact EK.of_rep (.pair a b) _ _ _ he h
  | bool => exact scal rfl (fun e => by subst e; cases he) he
  | int k => exact scal rfl (fun e => by subst e; cases he) he
  | flt k => exact scal rfl (fun e => by subst e; cases he) he
  | cpx k => exact scal rfl (fun e => by subst e; cases he) he
  | str => exact scal rfl (fun e => by subst e; cases he) he

theorem flat_set (κ : EK) (l : List κ.den) (i : Nat) (y : κ.den) (hi : i < l.length) : (l.set i y).flatMap κ.cells = (l.take i).flatMap κ.cells ++ (κ.cells y ++ (l.drop (i + 1)).flatMap κ.cells) := by
  rw [List.set_eq_take_append_cons_drop, if_pos hi, List.flatMap_append, List.flatMap_cons]

theorem flat_splice (κ : EK) (l : List κ.den) (i c : Nat) (x : κ.den) (vs : List AV) (hx : l[i]? = some x) (hc : c + vs.length ≤ κ.size) :
    splice (l.flatMap κ.cells) (i * κ.size + c) vs = (l.take i).flatMap κ.cells ++ (splice (κ.cells x) c vs ++ (l.drop (i + 1)).flatMap κ.cells) := by
  obtain ⟨hi, hx'⟩ := List.getElem?_eq_some_iff.1 hx
  have hl : l = l.take i ++ x :: l.drop (i + 1) := by rw [← hx', List.getElem_cons_drop, List.take_append_drop]
  have hlen : ((l.take i).flatMap κ.cells).length = i * κ.size := by rw [flat_length, List.length_take]; congr 1; omega
  have e : l.flatMap κ.cells = (l.take i).flatMap κ.cells ++ (κ.cells x ++ (l.drop (i + 1)).flatMap κ.cells) := by
    conv => lhs; rw [hl]
    rw [List.flatMap_append, List.flatMap_cons]
  rw [e]
  generalize (l.take i).flatMap κ.cells = A at hlen ⊢
  generalize (l.drop (i + 1)).flatMap κ.cells = C
  have hB := EK.cells_length κ x
  generalize κ.cells x = B at hB ⊢
  unfold splice
  rw [List.take_append, List.drop_append, List.take_of_length_le (by omega), List.drop_eq_nil_of_le (by omega), show i * κ.size + c - A.length = c by omega, show i * κ.size + c + vs.length - A.length = c + vs.length by omega,
    List.take_append_of_le_length (by omega), List.drop_append_of_le_length (by omega)]
  simp

/-- A block is named anew in place: the same cells, told otherwise. -/
theorem retell {β : Bt} {h : Heap} {w : World} {base : Nat} (hr : Rep β h w base) {n : Nat} {b b' : Blk} {l : Loc} (hn : hget h n = some b) (hlive : b.live) (hl : β n = some l) (ho : b'.own = b.own) (hlen : b'.len = b.len) (hes : b'.es = b.es)
    (hcl : ∀ U, VReps β b.cl U → VReps β b'.cl U) : Rep β (hset h n b') w base := by
  have hB := hr.blk n b l hn hlive hl
  have old : ∀ m c, hget (hset h n b') m = some c → c.live → ∃ c0, hget h m = some c0 ∧ c0.live := by
    intro m c hm hc
    by_cases e : n = m
    · subst e; exact ⟨b, hn, hlive⟩
    · rw [hget_hset_ne h b' e] at hm; exact ⟨c, hm, hc⟩
  refine ⟨fun m hm => ?_, fun m c hm => ?_, fun m c lm hm hlm hlm' => ?_, fun m m' c c' lm lm' hne hm hm' h1 h2 h3 h4 h5 h6 h7 h8 => ?_⟩
  · by_cases e : n = m
    · subst e; rw [hget_hset_self h n b' b hn] at hm; cases hm
    · rw [hget_hset_ne h b' e] at hm; exact hr.dom m hm
  · by_cases e : n = m
    · subst e; exact ⟨l, hl⟩
    · rw [hget_hset_ne h b' e] at hm; exact hr.loc m c hm
  · by_cases e : n = m
    · subst e
      rw [hget_hset_self h n b' b hn] at hm; cases hm
      rw [hl] at hlm'; cases hlm'
      obtain ⟨U, hU1, hU2, hU3⟩ := VReps.of_cells (fun j => w.cell? ⟨l.blk, l.off + j, none⟩) b.cl hB.cells
      have hsp := hcl _ hU3
      have hlen2 := hsp.length
      refine ⟨by rw [hB.own, ho], by rw [hB.len, hlen], by rw [hB.es, hes], fun j x hj => ?_, fun h => hB.mine (ho ▸ h), fun h => hB.room (ho ▸ h), fun h hne => hB.other (ho ▸ h) ?_⟩
      · obtain ⟨u, hu, hx⟩ := hsp.get j hj
        exact ⟨u, hU1 j u hu, hx⟩
      · intro h0
        rw [h0] at hU2
        exact hne (List.eq_nil_of_length_eq_zero (by rw [hlen2, hU2]; rfl))
    · rw [hget_hset_ne h b' e] at hm
      exact hr.blk m c lm hm hlm hlm'
  · obtain ⟨c0, g1, g2⟩ := old m c hm h1
    obtain ⟨c1, g3, g4⟩ := old m' c' hm' h2
    exact hr.sep m m' c0 c1 lm lm' hne g1 g3 g2 g4 h3 h4 h5 h6 h7 h8

/-- A write into a block of one's own: 'cs' at cell k of it. -/
theorem write_post {β : Bt} {h : Heap} {w : World} {base : Nat} (hr : Rep β h w base) {n : Nat} {b b' : Blk} {l : Loc} (hn : hget h n = some b) (hlive : b.live) (hl : β n = some l) (ho : b.own = true) (ho' : b'.own = true) (hlen : b'.len = b.len) (hes : b'.es = b.es)
    {k : Nat} {cs : List AV} {us : List Value} (hcs : VReps β cs us) (hk : k + cs.length ≤ b.cl.length) (hcl : ∀ U, VReps β (splice b.cl k cs) U → VReps β b'.cl U) :
    Rep β (hset h n b') (w.setCells l.blk (l.off + k) us) base ∧ Below base w (w.setCells l.blk (l.off + k) us) := by
  by_cases h0 : cs = []
  · subst h0
    cases hcs
    refine ⟨retell hr hn hlive hl (by rw [ho, ho']) hlen hes fun U hU => hcl U ?_, Below.refl _ _⟩
    have : splice b.cl k [] = b.cl := by unfold splice; simp
    rw [this]; exact hU
  · skip
    have hB := hr.blk n b l hn hlive hl
    have hroom := hB.room ho
    have hcl' := b.cl_length
    have hlen1 : l.len = b.len := hB.len
    have hes1 : l.es = b.es := hB.es
    have hpos : 0 < cs.length := List.length_pos_iff.2 h0
    have hsz : 0 < l.size := by rw [hlen1, hes1] at hroom; omega
    obtain ⟨hbase, ⟨cs0, e0, fr0, hheap, hcsz⟩, hfr⟩ := hB.mine ho hsz
    obtain ⟨_, _, _, _, hother, hself⟩ := setCells_heap l.blk us (l.off + k) w
    have hbel := below_setCells w l.blk (l.off + k) us hbase
    have hex : ∀ j, j < us.length → (w.cell? ⟨l.blk, l.off + k + j, none⟩).isSome = true := by
      intro j hj
      have hj' : k + j < b.cl.length := by have := hcs.length; omega
      obtain ⟨u, hu, _⟩ := hB.cells (k + j) _ (List.getElem?_eq_getElem hj')
      rw [Nat.add_assoc, hu]; rfl
    have hcellOther : ∀ p : Addr, p.block ≠ l.blk → (w.setCells l.blk (l.off + k) us).cell? p = w.cell? p := fun p hp => World.cell?_of_block (w := w) (hother _ hp)
    refine ⟨⟨fun m hm => ?_, fun m c hm => ?_, fun m c lm hm hlm hlm' => ?_, fun m m' c c' lm lm' hne hm hm' h1 h2 h3 h4 h5 h6 h7 h8 => ?_⟩, hbel⟩
    · by_cases e : n = m
      · subst e; rw [hget_hset_self h n b' b hn] at hm; cases hm
      · rw [hget_hset_ne h b' e] at hm; exact hr.dom m hm
    · by_cases e : n = m
      · subst e; exact ⟨l, hl⟩
      · rw [hget_hset_ne h b' e] at hm; exact hr.loc m c hm
    · by_cases e : n = m
      · subst e
        rw [hget_hset_self h n b' b hn] at hm; cases hm
        rw [hl] at hlm'; cases hlm'
        refine ⟨by rw [hB.own, ho, ho'], by rw [hlen1, hlen], by rw [hes1, hes], ?_, fun _ _ => ⟨hbase, ?_, fun o ho2 => ?_⟩, fun _ => by exact hroom, fun h => by rw [ho'] at h; cases h⟩
        · obtain ⟨U, hU1, hU2, hU3⟩ := VReps.of_cells (fun j => w.cell? ⟨l.blk, l.off + j, none⟩) b.cl hB.cells
          have hsp := hcl _ (hU3.splice hcs k)
          intro j x hj
          obtain ⟨u, hu, hx⟩ := hsp.get j hj
          refine ⟨u, ?_, hx⟩
          by_cases hin : k ≤ j ∧ j < k + us.length
          · have hu' : us[j - k]? = some u := by
              rw [List.append_assoc, List.getElem?_append_right (by rw [List.length_take]; omega), List.length_take, show j - min k U.length = j - k by have := hcs.length; omega, List.getElem?_append_left (by omega)] at hu
              exact hu
            obtain ⟨hlt, hu''⟩ := List.getElem?_eq_some_iff.1 hu'
            have := World.cell?_setCells_in l.blk us (l.off + k) w hex (j - k) hlt
            rw [show l.off + k + (j - k) = l.off + j by omega] at this
            rw [this, hu'']
          · have hu' : U[j]? = some u := by
              have hul : us.length = cs.length := hcs.length.symm
              by_cases hjk : j < k
              · rw [List.append_assoc, List.getElem?_append_left (by rw [List.length_take]; omega), List.getElem?_take, if_pos hjk] at hu
                exact hu
              · rw [List.getElem?_append_right (by simp only [List.length_append, List.length_take]; omega), List.getElem?_drop] at hu
                simp only [List.length_append, List.length_take] at hu
                rw [show k + us.length + (j - (min k U.length + us.length)) = j by omega] at hu
                exact hu
            rw [World.cell?_setCells_out l.blk us (l.off + k) w _ (fun _ _ => by simp only; omega)]
            exact hU1 j u hu'
        · obtain ⟨cs', h1, h2⟩ := hself _ _ _ hheap
          exact ⟨cs', e0, fr0, h1, by rw [h2, hcsz]⟩
        · rw [World.frozen?_setCells]; exact hfr o ho2
      · rw [hget_hset_ne h b' e] at hm
        have hBm := hr.blk m c lm hm hlm hlm'
        refine hBm.below (Bt.le_refl β) (fun j x hj u hu => ?_) (fun hco hs => ?_)
        · have hne2 : c.cl ≠ [] := fun e0 => by rw [e0] at hj; cases hj
          have hblk : lm.blk ≠ l.blk := by
            cases hco : c.own with
            | true =>
              have h1 := hBm.room hco
              have h2 := c.cl_length
              have h3 : 0 < c.cl.length := List.length_pos_iff.2 hne2
              rw [hBm.len, hBm.es] at h1
              exact fun e2 => hr.sep n m b c l lm e hn hm hlive hlm hl hlm' (by rw [hB.own, ho]) (by rw [hBm.own, hco]) hsz (by omega) e2.symm
            | false => have := hBm.other hco hne2; omega
          rw [hcellOther _ hblk]; exact hu
        · exact hother _ fun e2 => hr.sep n m b c l lm e hn hm hlive hlm hl hlm' (by rw [hB.own, ho]) (by rw [hBm.own, hco]) hsz hs e2.symm
    · have old : ∀ m c, hget (hset h n b') m = some c → c.live → ∃ c0, hget h m = some c0 ∧ c0.live := by
        intro m c hm hc
        by_cases e : n = m
        · subst e; exact ⟨b, hn, hlive⟩
        · rw [hget_hset_ne h b' e] at hm; exact ⟨c, hm, hc⟩
      obtain ⟨c0, g1, g2⟩ := old m c hm h1
      obtain ⟨c1, g3, g4⟩ := old m' c' hm' h2
      exact hr.sep m m' c0 c1 lm lm' hne g1 g3 g2 g4 h3 h4 h5 h6 h7 h8

/-! ### Stores -/
section
variable {P : Program} {Γ : Ctx}


/-- what a store checks and does, once the block is known -/
theorem storeCells_own {β : Bt} {h : Heap} {w : World} {base : Nat} (hr : Rep β h w base) {n : Nat} {b : Blk} {l : Loc} (hn : hget h n = some b) (hlive : b.live) (hl : β n = some l) (ho : b.own = true)
    {k : Nat} {cs : List AV} {us : List Value} (hcs : VReps β cs us) (hone : ∀ u ∈ us, u.oneCell' = true) (hk : k + cs.length ≤ b.cl.length) :
    (storeCells ⟨l.blk, l.off + k, none⟩ us).run P w = .ok () (w.setCells l.blk (l.off + k) us) := by
  have hB := hr.blk n b l hn hlive hl
  have hroom := hB.room ho
  have hcl := b.cl_length
  rw [hB.len, hB.es] at hroom
  have hl2 := hcs.length
  have := run_storeCells_cells (P := P) l.blk (l.off + k) us 0 w (fun j hj => ?_) (fun j hj => ?_) hone
  · simpa using this
  · obtain ⟨u, hu, _⟩ := hB.cells (k + j) _ (List.getElem?_eq_getElem (by omega))
    rw [show l.off + k + 0 + j = l.off + (k + j) by omega, hu]; rfl
  · exact (hB.mine ho (by omega)).2.2 _ (by omega)

theorem storeA_run {β : Bt} {h : Heap} {w : World} {base : Nat} (hΓ : TysOk P Γ) (hr : Rep β h w base) (t : Nat) (p v : AV) (x y : Value) (hx : VRep β p x) (hy : VRep β v y) (h' : Heap) (he : (storeA Γ h t p v).den = some h') :
    ∃ w', (Instr.storeAt t x y).run P w = .ok () w' ∧ Rep β h' w' base ∧ Below base w w' := by
  unfold storeA at he
  split at he
  · rename_i ti n i c hti
    have hT := hΓ.ty _ _ hti
    cases hx with
    | ptr _ _ _ l hl hi hc =>
    dsimp only at he
    -- the cells of the value
    have cells : ∀ cs, (match v with
        | .agg l => if ti.isAgg = true ∧ l.length = ti.size ∧ l.all cellB = true then some l else none
        | .top | .tup _ | .arv _ _ | .nils _ => none
        | v => if ti.isAgg = true ∨ ti.size ≠ 1 then none else some [v]) = some cs → VReps β cs y.cells.toList ∧ cs.length = ti.size ∧ ∀ u ∈ y.cells.toList, u.oneCell' = true := by
      intro cs hcs
      have one : ∀ (_ : cellB v = true) (_ : (if ti.isAgg = true ∨ ti.size ≠ 1 then none else some [v]) = some cs), VReps β cs y.cells.toList ∧ cs.length = ti.size ∧ ∀ u ∈ y.cells.toList, u.oneCell' = true := by
        intro hb hcs
        split at hcs
        · cases hcs
        · rename_i hz
          cases hcs
          have h1 := cellB_one hy hb
          have hcell : y.cells.toList = [y] := by cases y <;> first | rfl | cases h1
          rw [hcell]
          refine ⟨.one hy, by simp only [List.length_singleton]; omega, fun u hu => ?_⟩
          rw [List.mem_singleton] at hu; subst hu; exact h1
      cases v with
      | agg l =>
        cases hy with
        | agg _ us hus =>
        dsimp only at hcs
        split at hcs
        · rename_i hc
          cases hcs
          exact ⟨hus, hc.2.1, cellsB_one hus hc.2.2⟩
        · cases hcs
      | top => cases hcs
      | tup _ => cases hcs
      | arv _ _ => cases hcs
      | nils _ => cases hcs
      | _ => exact one rfl hcs
    have run : ∀ (b b' : Blk) (k : Nat) (cs : List AV), hget h n = some b → b.live → b.own = true → b'.own = true → b'.len = b.len → b'.es = b.es → VReps β cs y.cells.toList → cs.length = ti.size → (∀ u ∈ y.cells.toList, u.oneCell' = true) →
        k + cs.length ≤ b.cl.length → (∀ U, VReps β (splice b.cl k cs) U → VReps β b'.cl U) → l.off + (i * l.es + c) = l.off + k → h' = hset h n b' →
        ∃ w', (Instr.storeAt t (.pointer (some ⟨l.blk, l.off + (i * l.es + c), none⟩)) y).run P w = .ok () w' ∧ Rep β h' w' base ∧ Below base w w' := by
      intro b b' k cs hn hlive ho ho' hlen hes hcs hsz hone hk hcl haddr hh
      subst hh
      rw [haddr]
      refine ⟨_, ?_, write_post hr hn hlive hl ho ho' hlen hes hcs hk hcl⟩
      have hst := storeCells_own (P := P) hr hn hlive hl ho hcs hone hk
      have hs : y.cells.size = ti.size := by rw [← hsz, hcs.length]; simp
      simp only [Instr.storeAt, Instr.sureAddr, Sem.run_bind, Sem.run_pure, Result.andThen_ok, storeVar, hT.sizeOf w, hs, ne_eq, not_true_eq_false, if_false, hst]
    split at he
    · rename_i cs l0 hcs hn
      obtain ⟨h1, h2, h3⟩ := cells cs hcs
      have hb := hr.blk n _ l hn trivial hl
      have hes : l.es = 1 := hb.es
      split at he
      · rename_i hc0
        refine run _ (.vals true (splice l0 i cs)) i cs hn trivial rfl rfl ?_ rfl h1 h2 h3 hc0.2 (fun U hU => hU) (by rw [hes]; omega) (den_ret he).symm
        show (splice l0 i cs).length = l0.length
        unfold splice
        simp only [List.length_append, List.length_take, List.length_drop]
        omega
      · exact (den_fail he).elim
    · rename_i cs κ l0 hcs hn
      obtain ⟨h1, h2, h3⟩ := cells cs hcs
      have hb := hr.blk n _ l hn trivial hl
      have hes : l.es = κ.size := hb.es
      have hlen : l.len = l0.length := hb.len
      split at he
      · rename_i y0 hy0
        split at he
        · rename_i hcz
          have hget : l0[i]? = some (l0.getD i κ.dflt) := getD_of (by omega)
          have hfs := flat_splice κ l0 i c (l0.getD i κ.dflt) cs hget hcz
          refine run _ (.arr true κ (l0.set i y0)) (i * κ.size + c) cs hn trivial rfl rfl ?_ rfl h1 h2 h3 ?_ (fun U hU => ?_) (by rw [hes]) (den_ret he).symm
          · show (l0.set i y0).length = l0.length; exact List.length_set
          · show i * κ.size + c + cs.length ≤ (l0.flatMap κ.cells).length
            rw [flat_length]
            have : (i + 1) * κ.size ≤ l0.length * κ.size := Nat.mul_le_mul_right _ (by omega)
            rw [Nat.succ_mul] at this
            omega
          · have hU' : VReps β (splice (l0.flatMap κ.cells) (i * κ.size + c) cs) U := hU
            rw [hfs] at hU'
            obtain ⟨u1, u2, rfl, g1, g2⟩ := VReps.split _ hU'
            obtain ⟨u3, u4, rfl, g3, g4⟩ := VReps.split _ g2
            show VReps β ((l0.set i y0).flatMap κ.cells) _
            rw [flat_set κ l0 i y0 (by omega)]
            exact g1.append ((EK.upd_rep κ _ _ c cs hcz hy0 g3).append g4)
        · exact (den_fail he).elim
      · exact (den_fail he).elim
    · exact (den_fail he).elim
  · exact (den_fail he).elim
end
end Go.Ab
