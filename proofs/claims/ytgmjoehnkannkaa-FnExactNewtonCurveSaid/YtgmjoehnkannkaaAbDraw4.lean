/-
  Regions.
-/
import Derived.Test.YtgmjoehnkannkaaAbDraw3
namespace Go.Ab
open Go.RowKit

def Lof (listed : Array Bool) (i : Nat) : Prop := listed[i]? = some true

theorem mem_ready {ops : Array Oper} {listed : Array Bool} (hsz : listed.size = ops.size) {i : Nat} (h : i ∈ Region.ready .any ops listed) :
    ∃ o, ops[i]? = some o ∧ listed[i]? = some false ∧ ∀ e ∈ o.after.toList, Region.binds .any e = true → Lof listed e.on := by
  unfold Region.ready at h
  rw [List.mem_filter] at h
  obtain ⟨h1, h2⟩ := h
  have hlt : i < ops.size := List.mem_range.1 h1
  have ho : ops[i]? = some ops[i] := Array.getElem?_eq_getElem hlt
  rw [ho] at h2
  simp only [Bool.and_eq_true, Bool.not_eq_true', Option.map_some, Option.getD_some] at h2
  refine ⟨ops[i], ho, ?_, fun e he hb => ?_⟩
  · have hl : listed[i]? = some (listed[i]'(by omega)) := Array.getElem?_eq_getElem (by omega)
    have := h2.1
    rw [Array.getD_eq_getD_getElem?, hl] at this
    rw [hl]; simpa using this
  · have h3 := (Array.all_eq_true_iff_forall_mem.1 h2.2) e (by simpa using he)
    rw [hb] at h3
    simp only [Bool.not_true, Bool.false_or] at h3
    unfold Lof
    rw [Array.getD_eq_getD_getElem?] at h3
    cases hl : listed[e.on]? with
    | none => rw [hl] at h3; simp at h3
    | some b => rw [hl] at h3; simp at h3; rw [h3]

theorem ready_nil {ops : Array Oper} {listed : Array Bool} (hsz : listed.size = ops.size) (hback : backFrom 0 ops.toList = true) (h : Region.ready .any ops listed = []) : ∀ i, i < ops.size → Lof listed i := by
  intro i
  induction i using Nat.strongRecOn with
  | ind i ih =>
    intro hi
    have hl : listed[i]? = some (listed[i]'(by omega)) := Array.getElem?_eq_getElem (by omega)
    cases hb : listed[i]'(by omega) with
    | true => unfold Lof; rw [hl, hb]
    | false =>
      exfalso
      have hm : i ∈ Region.ready .any ops listed := by
        unfold Region.ready
        rw [List.mem_filter]
        refine ⟨List.mem_range.2 hi, ?_⟩
        have ho : ops[i]? = some ops[i] := Array.getElem?_eq_getElem hi
        rw [ho]
        simp only [Bool.and_eq_true, Bool.not_eq_true', Option.map_some, Option.getD_some]
        refine ⟨by rw [Array.getD_eq_getD_getElem?, hl, hb]; rfl, Array.all_eq_true_iff_forall_mem.2 fun e he => ?_⟩
        cases hbd : Region.binds .any e with
        | false => rfl
        | true =>
          have hlt := backFrom_get hback (by rw [Array.getElem?_toList]; exact ho) e (by simpa using he) hbd
          rw [Nat.zero_add] at hlt
          have := ih e.on hlt (by omega)
          unfold Lof at this
          rw [Array.getD_eq_getD_getElem?, this]; simp
      rw [h] at hm; cases hm

theorem lof_set {listed : Array Bool} {i : Nat} (hi : i < listed.size) : Lof (listed.setIfInBounds i true) = fun k => Lof listed k ∨ k = i := by
  funext k
  apply propext
  unfold Lof
  by_cases e : i = k
  · subst e
    simp [hi]
  · rw [Array.getElem?_setIfInBounds_ne e]
    constructor
    · exact .inl
    · rintro (h | h)
      · exact h
      · exact absurd h.symm e

def open_ (listed : Array Bool) : Nat := listed.toList.count false

theorem count_set : ∀ (l : List Bool) (i : Nat), l[i]? = some false → (l.set i true).count false + 1 = l.count false
  | [], i, h => by simp at h
  | b :: r, 0, h => by simp at h; subst h; simp
  | b :: r, i + 1, h => by
    have := count_set r i (by simpa using h)
    rw [List.set_cons_succ, List.count_cons, List.count_cons]
    omega

theorem open_set {listed : Array Bool} {i : Nat} (h : listed[i]? = some false) : open_ (listed.setIfInBounds i true) + 1 = open_ listed := by
  unfold open_
  rw [Array.toList_setIfInBounds]
  exact count_set _ i (by rw [Array.getElem?_toList]; exact h)

theorem open_zero {listed : Array Bool} (h : open_ listed = 0) : ∀ i : Nat, listed[i]? ≠ some false := by
  intro i hi
  have := open_set hi
  omega

section
variable {P : Program} {Γ : Ctx} {base : Nat} {ops : Array Oper} {Q : Exit → Act → World → Prop} {nm : Nat} {all : List Oper} {p : Nat} {s : St} {tmF : List AV} {dsF : List Heap} {β : Bt} {w0 : World}

theorem PA.done (hD : Drawn Γ nm all (befores all) s.hp (all.take p) 0 s.tm [] tmF dsF) (hp : p ≤ all.length) {L : Nat → Prop} {a : Act} {w : World} (hA : PA all p base s tmF dsF β w0 L a w) (hL : ∀ i, i < p → L i) :
    After β w0 base ⟨tmF, s.hp ++ joinD dsF⟩ a w := by
  obtain ⟨β', H, hle, hr, hb, hbel, hdef, hsz, hH, htm⟩ := hA.ex
  refine ⟨β', hle, ⟨VReps.mk' (by simp [hsz]) fun t ht => ?_, hr.congr fun n => ?_, hb, hdef⟩, hbel⟩
  · have ha : a.tmps.toList.getD t undef = a.tmps.getD t undef := by simp [Array.getD_eq_getD_getElem?]
    rw [ha]
    exact htm t ht fun i hi _ => hL i hi
  · have hlen : dsF.length = p := by
      obtain ⟨r, h1, h2⟩ := hD.more
      simp only [List.nil_append] at h1
      rw [h1, h2, List.length_take]; omega
    have key : ∀ b, hget (s.hp ++ joinD dsF) n = some b ↔ hget H n = some b := by
      intro b
      rw [hH, hget_append]
      constructor
      · intro h
        cases hg : hget s.hp n with
        | some c => rw [hg] at h; exact .inl h
        | none =>
          rw [hg] at h
          obtain ⟨i, d, h1, h2⟩ := hget_joinD_some h
          exact .inr ⟨i, d, hL i (by have := (List.getElem?_eq_some_iff.1 h1).1; omega), h1, h2⟩
      · rintro (h | ⟨i, d, _, h2, h3⟩)
        · rw [h]; rfl
        · rw [(drawn_apart hD h2).2.1 n b h3]
          exact hget_joinD_of h2 h3 fun i' d' h4 h5 => drawn_apart' hD h2 h4 (fun e => h5 e.symm) h3
    cases hg : hget H n with
    | some b => exact (key b).2 hg
    | none =>
      cases hg2 : hget (s.hp ++ joinD dsF) n with
      | none => rfl
      | some b => rw [(key b).1 hg2] at hg; cases hg

/-- From here on one by one. -/
structure PB (Γ : Ctx) (call : CallF) (nm : Nat) (all : List Oper) (p base : Nat) (β : Bt) (w0 : World) (s' : St) (L : Nat → Prop) (a : Act) (w : World) : Prop where
  ex : ∃ k s1, p ≤ k ∧ k ≤ all.length ∧ (∀ i, L i ↔ i < k) ∧ After β w0 base s1 a w ∧ (evOps Γ call nm all (all.drop k) s1).den = some s'

theorem wpAny_draw {call : CallF} (hΓ : CtxOk P Γ) (hcall : CallsOk P call) (hall : all = ops.toList) (hback : backFrom 0 all = true) (hop : all.all operOk = true) (hpe : p = tailFrom (befores all) all.length) (hok : drawOk all (befores all) p = true)
    (hD : Drawn Γ nm all (befores all) s.hp (all.take p) 0 s.tm [] tmF dsF) {s' : St} (he : (evOps Γ call nm all (all.drop p) ⟨tmF, s.hp ++ joinD dsF⟩).den = some s') (hQ : ∀ a' w', After β w0 base s' a' w' → Q .normal a' w') :
    ∀ (fuel : Nat) (listed : Array Bool) (a : Act) (w : World), open_ listed ≤ fuel → listed.size = ops.size →
      (PA all p base s tmF dsF β w0 (Lof listed) a w ∨ PB Γ call nm all p base β w0 s' (Lof listed) a w) → wpAny P .any ops Q fuel listed a w := by
  have hn : all.length = ops.size := by rw [hall, Array.length_toList]
  obtain ⟨hp, htail⟩ := tailFrom_spec (befores all) all.length
  rw [← hpe] at hp htail
  have getO : ∀ i, all[i]? = ops[i]? := fun i => by rw [hall, Array.getElem?_toList]
  -- all have come
  have fin : ∀ (listed : Array Bool) (a : Act) (w : World), listed.size = ops.size → (PA all p base s tmF dsF β w0 (Lof listed) a w ∨ PB Γ call nm all p base β w0 s' (Lof listed) a w) → Region.ready .any ops listed = [] → Q .normal a w := by
    intro listed a w hsz hI hnil
    have hL := ready_nil hsz (hall ▸ hback) hnil
    rcases hI with hA | ⟨k, s1, h1, h2, h3, h4, h5⟩
    · have hpn : p = all.length := by
        rcases Nat.lt_or_ge p all.length with h | h
        · have := hA.low p (hL p (by omega)); omega
        · omega
      have := PA.done hD hp hA fun i hi => hL i (by omega)
      have hd : all.drop p = [] := List.drop_eq_nil_of_le (by omega)
      rw [hd] at he
      have := den_ret he
      subst this
      exact hQ a w ‹_›
    · have hk : k = all.length := by
        rcases Nat.lt_or_ge k all.length with h | h
        · have := (h3 k).1 (hL k (by omega)); omega
        · omega
      have hd : all.drop k = [] := List.drop_eq_nil_of_le (by omega)
      rw [hd] at h5
      have := den_ret h5
      subst this
      exact hQ a w h4
  -- one of those behind the first p
  have tailStep : ∀ (fuel : Nat) (ih : ∀ (listed : Array Bool) (a : Act) (w : World), open_ listed ≤ fuel → listed.size = ops.size →
      (PA all p base s tmF dsF β w0 (Lof listed) a w ∨ PB Γ call nm all p base β w0 s' (Lof listed) a w) → wpAny P .any ops Q fuel listed a w) (listed : Array Bool) (a : Act) (w : World) (i : Nat) (o : Oper), open_ listed ≤ fuel + 1 → listed.size = ops.size → ops[i]? = some o → listed[i]? = some false →
      PB Γ call nm all p base β w0 s' (Lof listed) a w → (∀ m, m < i → Lof listed m) → wpOp P ops Q i (wpAny P .any ops Q fuel (listed.setIfInBounds i true)) a w := by
    intro fuel ih listed a w i o hfuel hsz ho hl ⟨k, s1, h1, h2, h3, ⟨β1, h4, h5, h6⟩, h7⟩ hm
    have hik : i = k := by
      have h8 : ¬ i < k := fun h => by have := (h3 i).2 h; unfold Lof at this; rw [hl] at this; cases this
      rcases Nat.lt_or_ge k i with h | h
      · have := (h3 k).1 (hm k h); omega
      · omega
    subst hik
    unfold wpOp
    rw [ho]
    have hilt : i < all.length := by rw [hn]; exact (Array.getElem?_eq_some_iff.1 ho).1
    have hdrop : all.drop i = o :: all.drop (i + 1) := by
      rw [List.drop_eq_getElem_cons hilt]
      have := getO i
      rw [ho, List.getElem?_eq_getElem hilt] at this
      cases this; rfl
    rw [hdrop] at h7
    refine evOps_step hΓ hcall h5 nm hall (List.all_eq_true.1 hop o (List.mem_of_getElem? (by rw [getO]; exact ho))) h7 fun β2 s2 a2 w2 g1 g2 g3 g4 => ?_
    refine ih _ _ _ (by have := open_set hl; omega) (by simpa using hsz) (.inr ⟨i + 1, s2, by omega, by omega, fun m => ?_, ⟨β2, h4.trans g1, g2, h6.trans g3⟩, g4⟩)
    rw [lof_set (by rw [hsz]; omega)]
    show (Lof listed m ∨ m = i) ↔ m < i + 1
    rw [h3]
    omega
  intro fuel
  induction fuel with
  | zero =>
    intro listed a w hf hsz hI
    have hnil : Region.ready .any ops listed = [] := by
      cases hr : Region.ready .any ops listed with
      | nil => rfl
      | cons i r =>
        obtain ⟨o, h1, h2, _⟩ := mem_ready hsz (i := i) (by rw [hr]; exact List.mem_cons_self)
        exact absurd h2 (open_zero (by omega) i)
    exact ⟨hnil, fin listed a w hsz hI hnil⟩
  | succ fuel ih =>
    intro listed a w hf hsz hI
    refine ⟨fin listed a w hsz hI, fun i hi => ?_⟩
    obtain ⟨o, ho, hl, hin⟩ := mem_ready hsz hi
    have hilt : i < ops.size := (Array.getElem?_eq_some_iff.1 ho).1
    have hnot : ¬ Lof listed i := fun h => by unfold Lof at h; rw [hl] at h; cases h
    have hoA : all[i]? = some o := by rw [getO]; exact ho
    rcases hI with hA | hB
    · by_cases hip : i < p
      · unfold wpOp
        rw [ho]
        refine PA.step hΓ hall hback hok hD hA hip hnot hoA hin (List.all_eq_true.1 hop o (List.mem_of_getElem? hoA)) fun a' w' h => ?_
        refine ih _ _ _ (by have := open_set hl; omega) (by simpa using hsz) (.inl ?_)
        rw [lof_set (by rw [hsz]; exact hilt)]; exact h
      · have hm : ∀ m, m < i → Lof listed m := fun m hm => ahead_in hA.closed i o hoA hin m (htail i (by omega) (by omega) m hm)
        have hi' : i = p := by
          rcases Nat.lt_or_ge p i with h | h
          · have := hA.low p (hm p h); omega
          · omega
        refine tailStep fuel ih listed a w i o hf hsz ho hl ⟨p, ⟨tmF, s.hp ++ joinD dsF⟩, Nat.le_refl _, hp, fun m => ⟨hA.low m, fun h => hm m (by omega)⟩, PA.done hD hp hA fun m h => hm m (by omega), he⟩ hm
    · have hB' := hB
      obtain ⟨k, s1, h1, h2, h3, h4, h5⟩ := hB
      have hik : k ≤ i := by
        rcases Nat.lt_or_ge i k with h | h
        · exact absurd ((h3 i).2 h) hnot
        · exact h
      have hcl : Closed all (Lof listed) := by
        intro j o' hj ho' e he hbd
        have := backFrom_get hback ho' e he hbd
        exact (h3 _).2 (by have := (h3 j).1 hj; omega)
      exact tailStep fuel ih listed a w i o hf hsz ho hl hB' fun m hm => ahead_in hcl i o hoA hin m (htail i (by omega) (by omega) m hm)

theorem evRegion_sound {call : CallF} (hΓ : CtxOk P Γ) (hcall : CallsOk P call) (id : Nat) (draw : Bool) (hback : backFrom 0 ops.toList = true) (hop : ops.toList.all operOk = true) {a : Act} {w : World} (hs : SR β base s a w) {s' : St}
    (he : (evRegion Γ call nm ops.toList draw s).den = some s') (hQ : ∀ a' w', After β w base s' a' w' → Q .normal a' w') : (Code.region id ops draw).wp P Q a w := by
  unfold evRegion at he
  cases draw with
  | false =>
    simp only [cond_false] at he
    refine wp_region ?_
    have h1 : List.range ops.size = List.range' 0 ops.toList.length := by rw [Array.length_toList, List.range_eq_range']
    rw [h1, wpOps_eq_wpList ops.toList 0 (fun j => by simp)]
    exact evOps_sound hΓ hcall nm rfl ops.toList hop β s a w hs s' he hQ
  | true =>
    simp only [cond_true] at he
    generalize hok : drawOk ops.toList (befores ops.toList) (tailFrom (befores ops.toList) ops.toList.length) = ok at he
    cases ok with
    | false => exact (den_fail he).elim
    | true =>
      obtain ⟨⟨tmF, dsF⟩, h1, h2⟩ := den_bind_some he
      refine wp_region_any hΓ.mixed ?_
      have hw : Below base w { w with drawn := w.drawn + 1 } := ⟨rfl, rfl, rfl, Nat.le_refl _, fun _ _ => rfl⟩
      refine wpAny_draw hΓ hcall rfl hback hop rfl hok (evDraw_drawn Γ nm _ _ _ _ _ _ _ _ _ h1) h2 hQ ops.size _ a _ ?_ (by simp) (.inl ?_)
      · unfold open_
        refine Nat.le_trans List.count_le_length (by simp)
      · refine ⟨fun j o hj => ?_, fun i hi => ?_, β, s.hp, β.le_refl, hs.rep.heap_eq rfl, hs.base, hw, hs.defers, ?_, fun n b => ?_, fun t ht hno => ?_⟩
        · unfold Lof at hj; simp [Array.getElem?_replicate] at hj
        · unfold Lof at hi; simp [Array.getElem?_replicate] at hi
        · have := hs.tm.length
          rw [(evDraw_drawn Γ nm _ _ _ _ _ _ _ _ _ h1).len, this]; simp
        · constructor
          · exact .inl
          · rintro (h | ⟨i, d, hi, _⟩)
            · exact h
            · unfold Lof at hi; simp [Array.getElem?_replicate] at hi
        · have hD := evDraw_drawn Γ nm _ _ _ _ _ _ _ _ _ h1
          have : NoDst (ops.toList.take (tailFrom (befores ops.toList) ops.toList.length)) t := by
            intro o ho hd
            obtain ⟨k, hk⟩ := List.getElem?_of_mem ho
            rw [List.getElem?_take] at hk
            split at hk
            · rename_i hlt
              have := hno k hlt (by unfold slotOf; rw [hk]; exact hd)
              unfold Lof at this; simp [Array.getElem?_replicate] at this
            · cases hk
          exact (hD.kept t this _ _).2 (slot_rep hs.tm t)
end
end Go.Ab
