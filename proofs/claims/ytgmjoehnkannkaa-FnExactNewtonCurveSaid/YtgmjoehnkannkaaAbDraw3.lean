/-
  Regions whose order is open: whatever the order, the machine does what the evaluator tells.
-/
import Derived.Test.YtgmjoehnkannkaaAbDraw2
namespace Go.Ab
open Go.RowKit

theorem hget_joinD_some {n : Nat} {b : Blk} : ∀ {ds : List Heap}, hget (joinD ds) n = some b → ∃ (i : Nat) (d : Heap), ds[i]? = some d ∧ hget d n = some b
  | [], h => by cases h
  | d :: r, h => by
    unfold joinD at h
    rw [hget_append] at h
    cases hd : hget d n with
    | some c =>
      rw [hd] at h
      exact ⟨0, d, rfl, by rw [hd]; exact h⟩
    | none =>
      rw [hd] at h
      obtain ⟨i, d', h1, h2⟩ := hget_joinD_some (ds := r) h
      exact ⟨i + 1, d', h1, h2⟩

theorem hget_joinD_none {n : Nat} : ∀ {ds : List Heap}, hget (joinD ds) n = none → ∀ (i : Nat) (d : Heap), ds[i]? = some d → hget d n = none
  | [], _, i, d, h => by simp at h
  | e :: r, h, i, d, hi => by
    unfold joinD at h
    rw [hget_append] at h
    cases hd : hget e n with
    | some c => rw [hd] at h; cases h
    | none =>
      rw [hd] at h
      cases i with
      | zero => simp at hi; subst hi; exact hd
      | succ i => exact hget_joinD_none (ds := r) h i d (by simpa using hi)

theorem hget_joinD_of {n : Nat} {b : Blk} : ∀ {ds : List Heap} {i : Nat} {d : Heap}, ds[i]? = some d → hget d n = some b → (∀ (i' : Nat) (d' : Heap), ds[i']? = some d' → i' ≠ i → hget d' n = none) → hget (joinD ds) n = some b
  | [], i, d, h, _, _ => by simp at h
  | e :: r, i, d, hi, hd, hno => by
    unfold joinD
    rw [hget_append]
    cases i with
    | zero => simp at hi; subst hi; rw [hd]; rfl
    | succ i =>
      rw [hno 0 e rfl (by omega)]
      exact hget_joinD_of (ds := r) (by simpa using hi) hd fun i' d' h1 h2 => hno (i' + 1) d' (by simpa using h1) (by omega)

theorem hget_pickD_some {x n : Nat} {b : Blk} : ∀ {ds : List Heap} {j : Nat}, hget (pickD x j ds) n = some b → ∃ (i : Nat) (d : Heap), ds[i]? = some d ∧ x.testBit (j + i) = true ∧ hget d n = some b
  | [], _, h => by cases h
  | d :: r, j, h => by
    unfold pickD at h
    have recu : hget (pickD x (j + 1) r) n = some b → ∃ (i : Nat) (d' : Heap), (d :: r)[i]? = some d' ∧ x.testBit (j + i) = true ∧ hget d' n = some b := by
      intro h
      obtain ⟨i, d', h1, h2, h3⟩ := hget_pickD_some h
      exact ⟨i + 1, d', by simpa using h1, by rw [show j + (i + 1) = j + 1 + i by omega]; exact h2, h3⟩
    cases ht : x.testBit j with
    | false => rw [ht] at h; exact recu h
    | true =>
      rw [ht] at h
      simp only [cond_true] at h
      rw [hget_append] at h
      cases hd : hget d n with
      | some c => rw [hd] at h; exact ⟨0, d, rfl, ht, by rw [hd]; exact h⟩
      | none => rw [hd] at h; exact recu h

theorem nodupN_spec {α : Type} (f : α → Option Nat) : ∀ (l : List α), drawOk.nodupN (l.filterMap f) = true → ∀ (i j : Nat) (x y : α) (t : Nat), i < j → l[i]? = some x → l[j]? = some y → f x = some t → f y ≠ some t
  | [], _, i, j, x, y, t, _, h, _, _ => by simp at h
  | a :: r, hn, i, j, x, y, t, hij, hi, hj, hx => by
    cases j with
    | zero => omega
    | succ j =>
      have hj' : r[j]? = some y := by simpa using hj
      cases hfa : f a with
      | none =>
        rw [List.filterMap_cons, hfa] at hn
        cases i with
        | zero => simp at hi; subst hi; rw [hfa] at hx; cases hx
        | succ i => exact nodupN_spec f r hn i j x y t (by omega) (by simpa using hi) hj' hx
      | some t' =>
        rw [List.filterMap_cons, hfa] at hn
        unfold drawOk.nodupN at hn
        simp only [Bool.and_eq_true, Bool.not_eq_true'] at hn
        cases i with
        | zero =>
          simp at hi; subst hi
          rw [hfa] at hx; cases hx
          intro hy
          have hm : t ∈ r.filterMap f := List.mem_filterMap.2 ⟨y, List.mem_of_getElem? hj', hy⟩
          have := List.any_eq_false.1 hn.1 t hm
          rw [Nat.beq_refl] at this
          exact this rfl
        | succ i => exact nodupN_spec f r hn.2 i j x y t (by omega) (by simpa using hi) hj' hx

theorem drawOk_spec {all : List Oper} {bs : List Nat} {p : Nat} (h : drawOk all bs p = true) :
    (∀ (i j : Nat) (x y : Oper) (t : Nat), i < j → (all.take p)[i]? = some x → (all.take p)[j]? = some y → x.dst = some t → y.dst ≠ some t) ∧
    (∀ (j : Nat) (o : Oper), j < p → all[j]? = some o → ∀ t ∈ looksT all o, ∀ i, i < p → slotOf all i = some t → (bs.getD j 0).testBit i = true) := by
  unfold drawOk at h
  simp only [Bool.and_eq_true] at h
  refine ⟨fun i j x y t hij hi hj hx => nodupN_spec (·.dst) _ h.1 i j x y t hij hi hj hx, fun j o hj ho t ht i hi hs => ?_⟩
  have h1 := List.all_eq_true.1 h.2 j (List.mem_range.2 hj)
  rw [ho] at h1
  have h2 := List.all_eq_true.1 h1 t ht
  have h3 := List.all_eq_true.1 h2 i (List.mem_range.2 hi)
  rw [hs] at h3
  simp only [Nat.beq_refl, Bool.not_true, Bool.false_or] at h3
  exact h3

theorem runs_wanted {β : Bt} {tm : List AV} {a : Act} (ht : VReps β tm a.tmps.toList) {ops : Array Oper} {all : List Oper} (hall : all = ops.toList) {o : Oper} {yes : Bool} (h : Runs all o tm yes) : Region.wanted o (yielded ops a.tmps) = yes := by
  unfold Runs at h
  unfold Region.wanted
  cases hg : o.guard with
  | none => rw [hg] at h; exact h.symm
  | some gw =>
    obtain ⟨g, want⟩ := gw
    rw [hg] at h
    obtain ⟨sl, h1, h2⟩ := h
    rw [slotOf_dst hall] at h1
    dsimp only
    rcases h2 with ⟨b, h3, h4⟩ | ⟨h3, h4⟩
    · rw [bool_slot ht h1 h3, ← h4]
      cases b <;> cases want <;> rfl
    · rw [tup_slot ht h1 h3, h4]; rfl

theorem VReps.mk' {β : Bt} : ∀ {l : List AV} {us : List Value}, l.length = us.length → (∀ t, t < l.length → VRep β (l.getD t .top) (us.getD t undef)) → VReps β l us
  | [], [], _, _ => .nil
  | [], _ :: _, h, _ => by simp at h
  | _ :: _, [], h, _ => by simp at h
  | v :: r, u :: s, h, hv => .cons _ _ _ _ (by simpa using hv 0 (by simp)) (VReps.mk' (by simpa using h) fun t ht => by simpa using hv (t + 1) (by simpa using ht))

section
variable {P : Program} {Γ : Ctx} {base : Nat} {ops : Array Oper} {Q : Exit → Act → World → Prop} {nm : Nat} {all : List Oper} {p : Nat} {s : St} {tmF : List AV} {dsF : List Heap} {β : Bt} {w0 : World}

/-- While the first p operations come in any order: those of L have come. -/
structure PA (all : List Oper) (p base : Nat) (s : St) (tmF : List AV) (dsF : List Heap) (β : Bt) (w0 : World) (L : Nat → Prop) (a : Act) (w : World) : Prop where
  closed : Closed all L
  low : ∀ i, L i → i < p
  ex : ∃ β' H, β.le β' ∧ Rep β' H w base ∧ base ≤ w.heap.size ∧ Below base w0 w ∧ a.defers = [] ∧ a.tmps.size = tmF.length ∧
    (∀ n b, hget H n = some b ↔ hget s.hp n = some b ∨ ∃ i d, L i ∧ dsF[i]? = some d ∧ hget d n = some b) ∧
    (∀ t, t < tmF.length → (∀ i, i < p → slotOf all i = some t → L i) → VRep β' (tmF.getD t .top) (a.tmps.getD t undef))

/-- names are new, each -/
theorem drawn_apart {bs : List Nat} (hD : Drawn Γ nm all bs s.hp (all.take p) 0 s.tm [] tmF dsF) {j : Nat} {d : Heap} (hj : dsF[j]? = some d) : Dist d ∧ (∀ n b, hget d n = some b → hget s.hp n = none) ∧ ∀ i d', i < j → dsF[i]? = some d' → ∀ n b, hget d n = some b → hget d' n = none := by
  obtain ⟨r, hr1, hr2⟩ := hD.more
  simp only [List.nil_append] at hr1
  subst hr1
  have hlt := (List.getElem?_eq_some_iff.1 hj).1
  obtain ⟨tmk, v, d', h1, _, _, _, _, h6⟩ := hD.each j _ (List.getElem?_eq_getElem (by omega))
  simp only [List.length_nil, Nat.zero_add] at h1 h6
  rw [hj] at h1; cases h1
  obtain ⟨h7, h8⟩ := fresh_spec _ _ h6
  refine ⟨h8, fun n b hn => ?_, fun i d' hi hd' n b hn => ?_⟩
  · have := h7 n b hn
    rw [hget_append] at this
    cases hg : hget s.hp n with
    | none => rfl
    | some c => rw [hg] at this; cases this
  · have := h7 n b hn
    rw [hget_append] at this
    cases hg : hget s.hp n with
    | some c => rw [hg] at this; cases this
    | none =>
      rw [hg] at this
      exact hget_joinD_none this i d' (by rw [List.getElem?_take, if_pos hi]; exact hd')

theorem drawn_apart' {bs : List Nat} (hD : Drawn Γ nm all bs s.hp (all.take p) 0 s.tm [] tmF dsF) {i j : Nat} {d d' : Heap} (hi : dsF[i]? = some d) (hj : dsF[j]? = some d') (hij : i ≠ j) {n : Nat} {b : Blk} (hn : hget d n = some b) : hget d' n = none := by
  rcases Nat.lt_or_gt_of_ne hij with h | h
  · cases hg : hget d' n with
    | none => rfl
    | some c => rw [(drawn_apart hD hj).2.2 i d h hi n c hg] at hn; cases hn
  · exact (drawn_apart hD hi).2.2 j d' h hj n b hn

theorem PA.step (hΓ : CtxOk P Γ) (hall : all = ops.toList) (hback : backFrom 0 all = true) (hok : drawOk all (befores all) p = true) (hD : Drawn Γ nm all (befores all) s.hp (all.take p) 0 s.tm [] tmF dsF)
    {L : Nat → Prop} {a : Act} {w : World} (hA : PA all p base s tmF dsF β w0 L a w) {j : Nat} {o : Oper} (hj : j < p) (hnot : ¬ L j) (ho : all[j]? = some o) (hin : ∀ e ∈ o.after.toList, Region.binds .any e = true → L e.on) (hop : operOk o = true)
    {K : Act → World → Prop} (hK : ∀ a' w', PA all p base s tmF dsF β w0 (fun i => L i ∨ i = j) a' w' → K a' w') :
    if Region.wanted o (yielded ops a.tmps) then o.wp P a w K Q ∨ (o.asks P a w ∧ LetsOut Q) else K (a.put o.dst undef) w := by
  obtain ⟨β', H, hle, hr, hb, hbel, hdef, hsz, hH, htm⟩ := hA.ex
  obtain ⟨hnod, hlook⟩ := drawOk_spec hok
  have hoT : (all.take p)[j]? = some o := by rw [List.getElem?_take, if_pos hj]; exact ho
  have hslot : slotOf all j = o.dst := by unfold slotOf; rw [ho]; rfl
  obtain ⟨tmj, v, d, g1, g2, g3, g4, g5, g6⟩ := hD.each j o hoT
  simp only [List.length_nil, Nat.zero_add] at g1 g4 g6
  have hlenF : tmF.length = tmj.length := by rw [hD.len, g2]
  -- who writes what it looks at has come
  have hwr : ∀ t, t ∈ looksT all o → ∀ i, i < p → slotOf all i = some t → L i ∧ i < j := fun t ht i hi hs => by
    have hbit := hlook j o hj ho t ht i hi hs
    exact ⟨ahead_in hA.closed j o ho hin i hbit, bit_lt hback j o ho i hbit⟩
  have hnoD : ∀ t, t ∈ looksT all o → NoDst ((all.take p).drop j) t := by
    intro t ht o' ho' hd'
    obtain ⟨k, hk⟩ := List.getElem?_of_mem ho'
    rw [List.getElem?_drop, List.getElem?_take] at hk
    split at hk
    · rename_i hlt
      have := (hwr t ht (j + k) hlt (by unfold slotOf; rw [hk]; exact hd')).2
      omega
    · cases hk
  let tm' : List AV := (List.range tmF.length).map fun t => if t ∈ looksT all o then tmj.getD t .top else .top
  have hget' : ∀ t, t ∈ looksT all o → tm'.getD t .top = tmj.getD t .top := by
    intro t ht
    by_cases hlt : t < tmF.length
    · simp [tm', List.getD_eq_getElem?_getD, List.getElem?_map, List.getElem?_range hlt, ht]
    · rw [List.getD_eq_getElem?_getD, List.getD_eq_getElem?_getD, List.getElem?_eq_none (by simp [tm']; omega), List.getElem?_eq_none (by omega)]
  have htm' : VReps β' tm' a.tmps.toList := by
    refine VReps.mk' (by simp [tm', hsz]) fun t ht => ?_
    have ht2 : t < tmF.length := by simpa [tm'] using ht
    have ha : a.tmps.toList.getD t undef = a.tmps.getD t undef := by simp [Array.getD_eq_getD_getElem?]
    rw [ha]
    by_cases hm : t ∈ looksT all o
    · rw [hget' t hm]
      exact (g3 t (hnoD t hm) _ _).1 (htm t ht2 fun i hi hs => (hwr t hm i hi hs).1)
    · have : tm'.getD t .top = .top := by simp [tm', List.getD_eq_getElem?_getD, List.getElem?_map, List.getElem?_range ht2, hm]
      rw [this]; exact .top _
  have hruns : ∀ yes, Runs all o tmj yes → Runs all o tm' yes := by
    intro yes h
    unfold Runs at *
    cases hg : o.guard with
    | none => rw [hg] at h; exact h
    | some gw =>
      rw [hg] at h
      obtain ⟨sl, h1, h2⟩ := h
      refine ⟨sl, h1, ?_⟩
      rw [hget' sl (by unfold looksT; rw [hg]; exact List.mem_append_right _ (by simp [h1]))]
      exact h2
  -- what holds behind it
  have after : ∀ (u : Value) (w' : World) (β2 : Bt) (H2 : Heap), β'.le β2 → Rep β2 H2 w' base → base ≤ w'.heap.size → Below base w w' → VRep β2 v u → (∀ n b, hget H2 n = some b ↔ hget H n = some b ∨ hget d n = some b) →
      PA all p base s tmF dsF β w0 (fun i => L i ∨ i = j) (a.put o.dst u) w' := by
    intro u w' β2 H2 k1 k2 k3 k4 k5 k6
    refine ⟨fun i o' hi ho' e he hbd => ?_, fun i hi => ?_, β2, H2, hle.trans k1, k2, k3, hbel.trans k4, by rw [put_defers]; exact hdef, ?_, fun n b => ?_, fun t ht hall' => ?_⟩
    · rcases hi with hi | rfl
      · exact .inl (hA.closed i o' hi ho' e he hbd)
      · rw [ho] at ho'; cases ho'; exact .inl (hin e he hbd)
    · rcases hi with hi | rfl
      · exact hA.low i hi
      · exact hj
    · cases o.dst with
      | none => exact hsz
      | some d' => simpa [Act.put] using hsz
    · rw [k6, hH]
      constructor
      · rintro ((h | ⟨i, d', h1, h2⟩) | h)
        · exact .inl h
        · exact .inr ⟨i, d', .inl h1, h2⟩
        · exact .inr ⟨j, d, .inr rfl, g1, h⟩
      · rintro (h | ⟨i, d', h1 | rfl, h2, h3⟩)
        · exact .inl (.inl h)
        · exact .inl (.inr ⟨i, d', h1, h2, h3⟩)
        · rw [g1] at h2; cases h2; exact .inr h3
    · by_cases hd' : o.dst = some t
      · have hno : NoDst ((all.take p).drop (j + 1)) t := by
          intro o' ho' hd2
          obtain ⟨k, hk⟩ := List.getElem?_of_mem ho'
          rw [List.getElem?_drop] at hk
          exact hnod j (j + 1 + k) o o' t (by omega) hoT hk hd' hd2
        have hput : (a.put o.dst u).tmps.getD t undef = u := by
          rw [hd']
          have : t < a.tmps.size := by omega
          simp [Act.put, Array.getD_eq_getD_getElem?, this]
        rw [hput]
        exact (g5 t hd' (by rw [← hD.len]; exact ht) hno _ _).2 k5
      · have hput : (a.put o.dst u).tmps.getD t undef = a.tmps.getD t undef := by
          cases hdd : o.dst with
          | none => rfl
          | some d' =>
            have : d' ≠ t := fun e => hd' (by rw [hdd, e])
            simp [Act.put, Array.getD_eq_getD_getElem?, Array.getElem?_setIfInBounds_ne this]
        rw [hput]
        refine (htm t ht fun i hi hs => ?_).mono k1
        rcases hall' i hi hs with h | rfl
        · exact h
        · rw [hslot] at hs; exact absurd hs hd'
  rcases g4.is with ⟨hrun, he⟩ | ⟨hrun, rfl, rfl⟩
  · rw [runs_wanted htm' hall (hruns _ hrun), if_pos rfl]
    have hsub : Sub (s.hp ++ pickD ((befores all).getD j 0) 0 (dsF.take j)) H := by
      intro n b hn
      rw [hget_append] at hn
      cases hg : hget s.hp n with
      | some c => rw [hg] at hn; exact (hH n b).2 (.inl (by rw [hg]; exact hn))
      | none =>
        rw [hg] at hn
        obtain ⟨i, d', h1, h2, h3⟩ := hget_pickD_some hn
        rw [List.getElem?_take] at h1
        split at h1
        · exact (hH n b).2 (.inr ⟨i, d', ahead_in hA.closed j o ho hin i (by simpa using h2), h1, h3⟩)
        · cases h1
    have hcong : evOpA Γ tm' (s.hp ++ pickD ((befores all).getD j 0) 0 (dsF.take j)) nm o = evOpA Γ tmj (s.hp ++ pickD ((befores all).getD j 0) 0 (dsF.take j)) nm o := by
      refine evOpA_congr Γ _ nm o fun x hx => ?_
      cases x with
      | tmp t => exact hget' t (by unfold looksT; exact List.mem_append_left _ (List.mem_filterMap.2 ⟨.tmp t, by simpa using hx, rfl⟩))
      | _ => rfl
    obtain ⟨hdist, hnew, _⟩ := drawn_apart hD g1
    have hHd : ∀ n b, hget d n = some b → hget H n = none := by
      intro n b hn
      cases hg : hget H n with
      | none => rfl
      | some c =>
        rcases (hH n c).1 hg with h | ⟨i, d', h1, h2, h3⟩
        · rw [hnew n b hn] at h; cases h
        · rw [drawn_apart' hD g1 h2 (fun e => hnot (by rw [e]; exact h1)) hn] at h3; cases h3
    have hO := evOpA_sound (a := a) hΓ hsub hr htm' nm o hop (v, d) (by rw [hcong]; exact he) hdist (fun n b hn => hr.dom n (hHd n b hn))
    refine .inl (hO.wp fun u w' hp => ?_)
    obtain ⟨β2, k1, k2, k3, k4⟩ := add_post hr hb hp
    refine hK _ _ (after u w' β2 _ k1 k2 (k4.size_le' hb) k4 k3 fun n b => ?_)
    rw [hget_append]
    constructor
    · intro h
      cases hg : hget H n with
      | some c => rw [hg] at h; exact .inl h
      | none => rw [hg] at h; exact .inr h
    · rintro (h | h)
      · rw [h]; rfl
      · rw [hHd n b h]; exact h
  · rw [runs_wanted htm' hall (hruns _ hrun), if_neg Bool.false_ne_true]
    exact hK _ _ (after undef w β' H (Bt.le_refl _) hr hb (Below.refl _ _) (undef_rep _) fun n b => by simp [hget])
end
end Go.Ab
