/-
  States named anew, and states told by their form alone.
-/
import Derived.Test.YtgmjoehnkannkaaAbDraw4
import Derived.Test.YtgmjoehnkannkaaAbEv2
namespace Go.Ab
open Go.RowKit

/-! ### What is told no more -/
def Weak (v v' : AV) : Prop := ∀ β u, VRep β v u → VRep β v' u
def Weaks (l l' : List AV) : Prop := ∀ β us, VReps β l us → VReps β l' us

theorem weaks_cons {v v' : AV} {l l' : List AV} (h : Weak v v') (k : Weaks l l') : Weaks (v :: l) (v' :: l') := fun β us hu => by
  cases hu with
  | cons _ u _ s h1 h2 => exact .cons _ _ _ _ (h β u h1) (k β s h2)

mutual
theorem Sh.get_weak : ∀ (s : Sh) (v : AV) (x : s.den), s.get v = some x → Weak v (s.fill x)
  | .top, v, x, _ => fun β u _ => .top u
  | .nilp, v, x, h => by cases v <;> simp [Sh.get] at h; exact fun β u hu => hu
  | .ptr n i c, v, x, h => by
    cases v <;> simp only [Sh.get] at h <;> try (cases h)
    rename_i n' i' c'
    generalize hb : (Nat.beq n n' && Nat.beq i i' && Nat.beq c c') = ok at h
    cases ok with
    | false => cases h
    | true =>
      simp only [Bool.and_eq_true] at hb
      obtain ⟨⟨h1, h2⟩, h3⟩ := hb
      have := Nat.eq_of_beq_eq_true h1; have := Nat.eq_of_beq_eq_true h2; have := Nat.eq_of_beq_eq_true h3
      subst n' i' c'
      exact fun β u hu => hu
  | .bool, v, x, h => by cases v <;> simp [Sh.get] at h; subst h; exact fun β u hu => hu
  | .int k, v, x, h => by
    cases v <;> simp [Sh.get] at h
    obtain ⟨h1, h2⟩ := h
    subst h1; subst h2; exact fun β u hu => hu
  | .flt k, v, x, h => by
    cases v <;> simp [Sh.get] at h
    obtain ⟨h1, h2⟩ := h
    subst h1; subst h2; exact fun β u hu => hu
  | .cpx k, v, x, h => by
    cases v <;> simp [Sh.get] at h
    obtain ⟨h1, h2⟩ := h
    subst h1; subst h2; exact fun β u hu => hu
  | .str, v, x, h => by cases v <;> simp [Sh.get] at h; subst h; exact fun β u hu => hu
  | .slc n, v, x, h => by
    cases v <;> simp only [Sh.get] at h <;> try (cases h)
    rename_i n' off m
    generalize hb : (Nat.beq n n' && Nat.beq off 0) = ok at h
    cases ok with
    | false => cases h
    | true =>
      simp only [Bool.and_eq_true] at hb
      have := Nat.eq_of_beq_eq_true hb.1; have := Nat.eq_of_beq_eq_true hb.2
      subst n' off
      cases h
      exact fun β u hu => hu
  | .arv κ, v, x, h => by
    cases v <;> simp [Sh.get] at h
    obtain ⟨h1, h2⟩ := h
    subst h1; subst h2; exact fun β u hu => hu
  | .fn f a b, v, x, h => by
    cases v <;> simp only [Sh.get] at h <;> try (cases h)
    rename_i f' a' b'
    split at h
    · rename_i hf
      subst hf
      cases h1 : a.get a' with
      | none => rw [h1] at h; cases h
      | some y =>
      cases h2 : b.get b' with
      | none => rw [h1, h2] at h; cases h
      | some z =>
      rw [h1, h2] at h; cases h
      have i1 := Shs.get_weak a a' _ h1
      have i2 := Shs.get_weak b b' _ h2
      intro β u hu
      cases hu with
      | fn _ _ _ p q k1 k2 => exact .fn _ _ _ p q (i1 β _ k1) (i2 β _ k2)
    · cases h
  | .agg l, v, x, h => by
    cases v <;> simp only [Sh.get] at h <;> try (cases h)
    rename_i l'
    have i1 := Shs.get_weak l l' _ h
    intro β u hu
    cases hu with
    | agg _ p k1 => exact .agg _ p (i1 β _ k1)
theorem Shs.get_weak : ∀ (s : Shs) (l : List AV) (x : s.den), s.get l = some x → Weaks l (s.fill x)
  | .nil, [], x, _ => fun β us h => h
  | .nil, _ :: _, x, h => by simp [Shs.get] at h
  | .cons s r, [], x, h => by cases s <;> simp [Shs.get] at h
  | .cons .top r, v :: l, x, h => weaks_cons (fun β u _ => .top u) (Shs.get_weak r l x h)
  | .cons .nilp r, v :: l, x, h => by
    simp only [Shs.get] at h
    cases h1 : Sh.nilp.get v with
    | none => rw [h1] at h; simp at h
    | some z =>
      cases h2 : r.get l with
      | none => rw [h1, h2] at h; simp at h
      | some y =>
        rw [h1, h2] at h; cases h
        exact weaks_cons (Sh.get_weak .nilp v z h1) (Shs.get_weak r l _ h2)
  | .cons (.ptr n i c) r, v :: l, x, h => by
    simp only [Shs.get] at h
    cases h1 : (Sh.ptr n i c).get v with
    | none => rw [h1] at h; simp at h
    | some z =>
      cases h2 : r.get l with
      | none => rw [h1, h2] at h; simp at h
      | some y =>
        rw [h1, h2] at h; cases h
        exact weaks_cons (Sh.get_weak (.ptr n i c) v z h1) (Shs.get_weak r l _ h2)
  | .cons .bool r, v :: l, x, h => by
    simp only [Shs.get] at h
    cases h1 : (Sh.bool).get v with
    | none => rw [h1] at h; cases h
    | some z =>
      cases h2 : r.get l with
      | none => rw [h1, h2] at h; cases h
      | some y =>
        rw [h1, h2] at h; cases h
        exact weaks_cons (Sh.get_weak _ v _ h1) (Shs.get_weak r l _ h2)
  | .cons (.int k) r, v :: l, x, h => by
    simp only [Shs.get] at h
    cases h1 : (Sh.int k).get v with
    | none => rw [h1] at h; cases h
    | some z =>
      cases h2 : r.get l with
      | none => rw [h1, h2] at h; cases h
      | some y =>
        rw [h1, h2] at h; cases h
        exact weaks_cons (Sh.get_weak _ v _ h1) (Shs.get_weak r l _ h2)
  | .cons (.flt k) r, v :: l, x, h => by
    simp only [Shs.get] at h
    cases h1 : (Sh.flt k).get v with
    | none => rw [h1] at h; cases h
    | some z =>
      cases h2 : r.get l with
      | none => rw [h1, h2] at h; cases h
      | some y =>
        rw [h1, h2] at h; cases h
        exact weaks_cons (Sh.get_weak _ v _ h1) (Shs.get_weak r l _ h2)
  | .cons (.cpx k) r, v :: l, x, h => by
    simp only [Shs.get] at h
    cases h1 : (Sh.cpx k).get v with
    | none => rw [h1] at h; cases h
    | some z =>
      cases h2 : r.get l with
      | none => rw [h1, h2] at h; cases h
      | some y =>
        rw [h1, h2] at h; cases h
        exact weaks_cons (Sh.get_weak _ v _ h1) (Shs.get_weak r l _ h2)
  | .cons .str r, v :: l, x, h => by
    simp only [Shs.get] at h
    cases h1 : (Sh.str).get v with
    | none => rw [h1] at h; cases h
    | some z =>
      cases h2 : r.get l with
      | none => rw [h1, h2] at h; cases h
      | some y =>
        rw [h1, h2] at h; cases h
        exact weaks_cons (Sh.get_weak _ v _ h1) (Shs.get_weak r l _ h2)
  | .cons (.slc n) r, v :: l, x, h => by
    simp only [Shs.get] at h
    cases h1 : (Sh.slc n).get v with
    | none => rw [h1] at h; cases h
    | some z =>
      cases h2 : r.get l with
      | none => rw [h1, h2] at h; cases h
      | some y =>
        rw [h1, h2] at h; cases h
        exact weaks_cons (Sh.get_weak _ v _ h1) (Shs.get_weak r l _ h2)
  | .cons (.arv κ) r, v :: l, x, h => by
    simp only [Shs.get] at h
    cases h1 : (Sh.arv κ).get v with
    | none => rw [h1] at h; cases h
    | some z =>
      cases h2 : r.get l with
      | none => rw [h1, h2] at h; cases h
      | some y =>
        rw [h1, h2] at h; cases h
        exact weaks_cons (Sh.get_weak _ v _ h1) (Shs.get_weak r l _ h2)
  | .cons (.fn f a b) r, v :: l, x, h => by
    simp only [Shs.get] at h
    cases h1 : (Sh.fn f a b).get v with
    | none => rw [h1] at h; cases h
    | some z =>
      cases h2 : r.get l with
      | none => rw [h1, h2] at h; cases h
      | some y =>
        rw [h1, h2] at h; cases h
        exact weaks_cons (Sh.get_weak _ v _ h1) (Shs.get_weak r l _ h2)
  | .cons (.agg s) r, v :: l, x, h => by
    simp only [Shs.get] at h
    cases h1 : (Sh.agg s).get v with
    | none => rw [h1] at h; cases h
    | some z =>
      cases h2 : r.get l with
      | none => rw [h1, h2] at h; cases h
      | some y =>
        rw [h1, h2] at h; cases h
        exact weaks_cons (Sh.get_weak _ v _ h1) (Shs.get_weak r l _ h2)
end

theorem Shs.get_len : ∀ (s : Shs) (l : List AV) (x : s.den), s.get l = some x → (s.fill x).length = l.length
  | .nil, [], x, _ => rfl
  | .nil, _ :: _, x, h => by simp [Shs.get] at h
  | .cons s r, [], x, h => by cases s <;> simp [Shs.get] at h
  | .cons .top r, v :: l, x, h => congrArg (· + 1) (Shs.get_len r l x h)
  | .cons .nilp r, v :: l, x, h => by
    simp only [Shs.get] at h
    cases h1 : (Sh.nilp : Sh).get v with
    | none => rw [h1] at h; simp at h
    | some z =>
      cases h2 : r.get l with
      | none => rw [h1, h2] at h; simp at h
      | some y => rw [h1, h2] at h; cases h; exact congrArg (· + 1) (Shs.get_len r l _ h2)
  | .cons (.ptr n i c) r, v :: l, x, h => by
    simp only [Shs.get] at h
    cases h1 : (Sh.ptr n i c : Sh).get v with
    | none => rw [h1] at h; simp at h
    | some z =>
      cases h2 : r.get l with
      | none => rw [h1, h2] at h; simp at h
      | some y => rw [h1, h2] at h; cases h; exact congrArg (· + 1) (Shs.get_len r l _ h2)
  | .cons .bool r, v :: l, x, h => by
    simp only [Shs.get] at h
    cases h1 : (Sh.bool).get v with
    | none => rw [h1] at h; cases h
    | some z =>
      cases h2 : r.get l with
      | none => rw [h1, h2] at h; cases h
      | some y => rw [h1, h2] at h; cases h; exact congrArg (· + 1) (Shs.get_len r l _ h2)
  | .cons (.int k) r, v :: l, x, h => by
    simp only [Shs.get] at h
    cases h1 : (Sh.int k).get v with
    | none => rw [h1] at h; cases h
    | some z =>
      cases h2 : r.get l with
      | none => rw [h1, h2] at h; cases h
      | some y => rw [h1, h2] at h; cases h; exact congrArg (· + 1) (Shs.get_len r l _ h2)
  | .cons (.flt k) r, v :: l, x, h => by
    simp only [Shs.get] at h
    cases h1 : (Sh.flt k).get v with
    | none => rw [h1] at h; cases h
    | some z =>
      cases h2 : r.get l with
      | none => rw [h1, h2] at h; cases h
      | some y => rw [h1, h2] at h; cases h; exact congrArg (· + 1) (Shs.get_len r l _ h2)
  | .cons (.cpx k) r, v :: l, x, h => by
    simp only [Shs.get] at h
    cases h1 : (Sh.cpx k).get v with
    | none => rw [h1] at h; cases h
    | some z =>
      cases h2 : r.get l with
      | none => rw [h1, h2] at h; cases h
      | some y => rw [h1, h2] at h; cases h; exact congrArg (· + 1) (Shs.get_len r l _ h2)
  | .cons .str r, v :: l, x, h => by
    simp only [Shs.get] at h
    cases h1 : (Sh.str).get v with
    | none => rw [h1] at h; cases h
    | some z =>
      cases h2 : r.get l with
      | none => rw [h1, h2] at h; cases h
      | some y => rw [h1, h2] at h; cases h; exact congrArg (· + 1) (Shs.get_len r l _ h2)
  | .cons (.slc n) r, v :: l, x, h => by
    simp only [Shs.get] at h
    cases h1 : (Sh.slc n).get v with
    | none => rw [h1] at h; cases h
    | some z =>
      cases h2 : r.get l with
      | none => rw [h1, h2] at h; cases h
      | some y => rw [h1, h2] at h; cases h; exact congrArg (· + 1) (Shs.get_len r l _ h2)
  | .cons (.arv κ) r, v :: l, x, h => by
    simp only [Shs.get] at h
    cases h1 : (Sh.arv κ).get v with
    | none => rw [h1] at h; cases h
    | some z =>
      cases h2 : r.get l with
      | none => rw [h1, h2] at h; cases h
      | some y => rw [h1, h2] at h; cases h; exact congrArg (· + 1) (Shs.get_len r l _ h2)
  | .cons (.fn f a b) r, v :: l, x, h => by
    simp only [Shs.get] at h
    cases h1 : (Sh.fn f a b).get v with
    | none => rw [h1] at h; cases h
    | some z =>
      cases h2 : r.get l with
      | none => rw [h1, h2] at h; cases h
      | some y => rw [h1, h2] at h; cases h; exact congrArg (· + 1) (Shs.get_len r l _ h2)
  | .cons (.agg s) r, v :: l, x, h => by
    simp only [Shs.get] at h
    cases h1 : (Sh.agg s).get v with
    | none => rw [h1] at h; cases h
    | some z =>
      cases h2 : r.get l with
      | none => rw [h1, h2] at h; cases h
      | some y => rw [h1, h2] at h; cases h; exact congrArg (· + 1) (Shs.get_len r l _ h2)

theorem EK.cells_free {β β' : Bt} : ∀ (κ : EK) (x : κ.den) (us : List Value), VReps β (κ.cells x) us → VReps β' (κ.cells x) us
  | .bool, _, _, h => by cases h with | cons _ u _ s h1 h2 => cases h1; cases h2; exact .one (.bs _)
  | .int k, _, _, h => by cases h with | cons _ u _ s h1 h2 => cases h1; cases h2; exact .one (.int _ _)
  | .flt k, _, _, h => by cases h with | cons _ u _ s h1 h2 => cases h1 with | flt _ _ b hb => cases h2; exact .one (.flt _ _ _ hb)
  | .cpx k, _, _, h => by cases h with | cons _ u _ s h1 h2 => cases h1 with | cpx _ _ _ a b ha hb => cases h2; exact .one (.cpx _ _ _ _ _ ha hb)
  | .str, _, _, h => by cases h with | cons _ u _ s h1 h2 => cases h1; cases h2; exact .one (.str _)
  | .pair a b, x, us, h => by
    have h' : VReps β (a.cells x.1 ++ b.cells x.2) us := h
    obtain ⟨u1, u2, rfl, h1, h2⟩ := VReps.split _ h'
    exact (EK.cells_free a _ _ h1).append (EK.cells_free b _ _ h2)

theorem flat_free {β β' : Bt} {κ : EK} : ∀ {l : List κ.den} {us : List Value}, VReps β (l.flatMap κ.cells) us → VReps β' (l.flatMap κ.cells) us
  | [], _, h => by cases h; exact .nil
  | x :: r, us, h => by
    rw [List.flatMap_cons] at h ⊢
    obtain ⟨u1, u2, rfl, h1, h2⟩ := VReps.split _ h
    exact (EK.cells_free κ x _ h1).append (flat_free h2)

/-- A block told no more. -/
structure BWeak (b b' : Blk) : Prop where
  own : b'.own = b.own
  len : b'.len = b.len
  es : b'.es = b.es
  live : b'.live → b.live
  cl : Weaks b.cl b'.cl
  empty : b.cl = [] → b'.cl = []

theorem BSh.get_weak : ∀ (s : BSh) (b : Blk) (x : s.den), s.get b = some x → BWeak b (s.fill x)
  | .vals o l, b, x, h => by
    cases b with
    | vals o' l' =>
      simp only [BSh.get] at h
      generalize ho : (o == o') = ok at h
      cases ok with
      | false => cases h
      | true =>
        have : o = o' := by simpa using ho
        subst this
        have hl := Shs.get_len l l' x h
        refine ⟨rfl, hl, rfl, fun _ => trivial, Shs.get_weak l l' x h, fun h0 => ?_⟩
        have h0' : l' = [] := h0
        show l.fill x = []
        exact List.eq_nil_of_length_eq_zero (by rw [hl, h0']; rfl)
    | arr _ _ _ => simp [BSh.get] at h
    | dead => simp [BSh.get] at h
  | .arr o κ, b, x, h => by
    cases b with
    | arr o' κ' l' =>
      simp only [BSh.get] at h
      split at h
      · rename_i e
        subst e
        generalize ho : (o == o') = ok at h
        cases ok with
        | false => cases h
        | true =>
          have : o = o' := by simpa using ho
          subst this
          cases h
          exact ⟨rfl, rfl, rfl, fun _ => trivial, fun β us h => h, fun h => h⟩
      · cases h
    | vals _ _ => simp [BSh.get] at h
    | dead => simp [BSh.get] at h

theorem HSh.get_weak : ∀ (s : List (Nat × BSh)) (h : Heap) (x : HSh.den s), HSh.get s h = some x → ∀ n, (hget h n = none ∧ hget (HSh.fill s x) n = none) ∨ ∃ b b', hget h n = some b ∧ hget (HSh.fill s x) n = some b' ∧ BWeak b b'
  | [], [], x, _, n => .inl ⟨rfl, rfl⟩
  | [], _ :: _, x, h, n => by simp [HSh.get] at h
  | p :: r, [], x, h, n => by simp [HSh.get] at h
  | p :: r, (m, b) :: h', x, h, n => by
    simp only [HSh.get] at h
    generalize hb : Nat.beq p.1 m = ok at h
    cases ok with
    | false => cases h
    | true =>
      have := Nat.eq_of_beq_eq_true hb
      simp only [cond_true] at h
      cases h1 : p.2.get b with
      | none => rw [h1] at h; cases h
      | some y =>
      cases h2 : HSh.get r h' with
      | none => rw [h1, h2] at h; cases h
      | some z =>
      rw [h1, h2] at h; cases h
      unfold HSh.fill
      by_cases e : m = n
      · subst e
        rw [this, hget_cons_self, hget_cons_self]
        exact .inr ⟨_, _, rfl, rfl, BSh.get_weak p.2 b _ h1⟩
      · rw [hget_cons_ne _ _ e, hget_cons_ne _ _ (by rw [this]; exact e)]
        exact HSh.get_weak r h' _ h2 n

theorem Rep.weak {β : Bt} {h h' : Heap} {w : World} {base : Nat} (hr : Rep β h w base) (hh : ∀ n, (hget h n = none ∧ hget h' n = none) ∨ ∃ b b', hget h n = some b ∧ hget h' n = some b' ∧ BWeak b b') : Rep β h' w base := by
  have back : ∀ n b', hget h' n = some b' → ∃ b, hget h n = some b ∧ BWeak b b' := by
    intro n b' hn
    rcases hh n with ⟨_, h2⟩ | ⟨b, b2, h1, h2, h3⟩
    · rw [h2] at hn; cases hn
    · rw [h2] at hn; cases hn; exact ⟨b, h1, h3⟩
  refine ⟨fun n hn => ?_, fun n b' hn => ?_, fun n b' l hn hlive hl => ?_, fun n m b b' l l' hnm hn hm h1 h2 => ?_⟩
  · rcases hh n with ⟨h1, _⟩ | ⟨b, b2, h1, h2, h3⟩
    · exact hr.dom n h1
    · rw [h2] at hn; cases hn
  · obtain ⟨b, h1, _⟩ := back n b' hn
    exact hr.loc n b h1
  · obtain ⟨b, h1, h2⟩ := back n b' hn
    have hB := hr.blk n b l h1 (h2.live hlive) hl
    refine ⟨by rw [hB.own, h2.own], by rw [hB.len, h2.len], by rw [hB.es, h2.es], ?_, fun h => hB.mine (h2.own ▸ h), fun h => hB.room (h2.own ▸ h), fun h hne => hB.other (h2.own ▸ h) fun h0 => hne (h2.empty h0)⟩
    obtain ⟨U, hU1, hU2, hU3⟩ := VReps.of_cells (fun j => w.cell? ⟨l.blk, l.off + j, none⟩) b.cl hB.cells
    intro j v hj
    obtain ⟨u, hu, hv⟩ := (h2.cl β U hU3).get j hj
    exact ⟨u, hU1 j u hu, hv⟩
  · obtain ⟨c, g1, g2⟩ := back n b hn
    obtain ⟨c', g3, g4⟩ := back m b' hm
    exact hr.sep n m c c' l l' hnm g1 g3 (g2.live h1) (g4.live h2)

theorem SSh.get_sr {β : Bt} {base : Nat} {s : SSh} {t : St} {a : Act} {w : World} {x : s.den} (hg : s.get t = some x) (hs : SR β base t a w) : SR β base (s.fill x) a w := by
  unfold SSh.get at hg
  cases h1 : s.tm.get t.tm with
  | none => rw [h1] at hg; cases hg
  | some y =>
  cases h2 : HSh.get s.hp t.hp with
  | none => rw [h1, h2] at hg; cases hg
  | some z =>
  rw [h1, h2] at hg; cases hg
  exact ⟨Shs.get_weak s.tm t.tm _ h1 β _ hs.tm, hs.rep.weak (HSh.get_weak s.hp t.hp _ h2), hs.base, hs.defers⟩

/-! ### Names -/
theorem inN_mem {l : List Nat} {x : Nat} : inN l x = true ↔ x ∈ l := by
  unfold inN
  rw [List.any_eq_true]
  constructor
  · rintro ⟨y, hy, he⟩
    have := Nat.eq_of_beq_eq_true he
    subst this; exact hy
  · intro h
    exact ⟨x, h, Nat.beq_refl x⟩

theorem posOf_lt : ∀ (l : List Nat) (j x : Nat), x ∈ l → posOf x l j < j + l.length ∧ j ≤ posOf x l j
  | [], _, _, h => by cases h
  | y :: r, j, x, h => by
    unfold posOf
    cases hb : Nat.beq x y with
    | true => simp only [cond_true, List.length_cons]; omega
    | false =>
      have hne : x ≠ y := fun e => by subst e; rw [Nat.beq_refl] at hb; cases hb
      have := posOf_lt r (j + 1) x (by simpa [hne] using h)
      simp only [cond_false, List.length_cons]; omega

theorem posOf_inj : ∀ (l : List Nat) (j x y : Nat), x ∈ l → y ∈ l → posOf x l j = posOf y l j → x = y
  | [], _, _, _, h, _, _ => by cases h
  | z :: r, j, x, y, hx, hy, h => by
    unfold posOf at h
    cases hb : Nat.beq x z with
    | true =>
      have hxz := Nat.eq_of_beq_eq_true hb
      cases hc : Nat.beq y z with
      | true => rw [hxz, Nat.eq_of_beq_eq_true hc]
      | false =>
        exfalso
        have hne : y ≠ z := fun e => by subst e; rw [Nat.beq_refl] at hc; cases hc
        rw [hb, hc] at h
        simp only [cond_true, cond_false] at h
        have := posOf_lt r (j + 1) y (by simpa [hne] using hy)
        omega
    | false =>
      have hnx : x ≠ z := fun e => by subst e; rw [Nat.beq_refl] at hb; cases hb
      cases hc : Nat.beq y z with
      | true =>
        exfalso
        rw [hb, hc] at h
        simp only [cond_true, cond_false] at h
        have := posOf_lt r (j + 1) x (by simpa [hnx] using hx)
        omega
      | false =>
        have hny : y ≠ z := fun e => by subst e; rw [Nat.beq_refl] at hc; cases hc
        rw [hb, hc] at h
        exact posOf_inj r (j + 1) x y (by simpa [hnx] using hx) (by simpa [hny] using hy) h

mutual
theorem ren_rep {β β' : Bt} {ρ : Nat → Nat} : ∀ (v : AV) (u : Value), VRep β v u → (∀ n l, n ∈ v.names → β n = some l → β' (ρ n) = some l) → VRep β' (v.ren ρ) u
  | _, _, .top v, _ => .top v
  | _, _, .bl b, _ => .bs b
  | _, _, .bs b, _ => .bs b
  | _, _, .int k n, _ => .int k n
  | _, _, .flt k x b h, _ => .flt k x b h
  | _, _, .cpx k x y a b h h', _ => .cpx k x y a b h h'
  | _, _, .str s, _ => .str s
  | _, _, .nilp, _ => .nilp
  | _, _, .ptr n i c l h h1 h2, hn => .ptr _ i c l (hn n l (by simp [AV.names]) h) h1 h2
  | _, _, .slc n o m l a cap h h1, hn => .slc _ o m l a cap (hn n l (by simp [AV.names]) h) h1
  | _, _, .nils κ a, _ => .nils κ a
  | _, _, .fn f a b a' b' h h', hn => .fn f _ _ a' b' (renL_rep a a'.toList h fun n l hm => hn n l (by simp [AV.names, hm])) (renL_rep b b'.toList h' fun n l hm => hn n l (by simp [AV.names, hm]))
  | _, _, .agg l cs h, hn => .agg _ cs (renL_rep l cs.toList h fun n l hm => hn n l (by simp [AV.names, hm]))
  | _, _, .arv κ l cs h, _ => .arv κ l cs (flat_free h)
  | _, _, .tup l cs h, hn => .tup _ cs (renL_rep l cs.toList h fun n l hm => hn n l (by simp [AV.names, hm]))
theorem renL_rep {β β' : Bt} {ρ : Nat → Nat} : ∀ (l : List AV) (us : List Value), VReps β l us → (∀ n k, n ∈ AV.namesL l → β n = some k → β' (ρ n) = some k) → VReps β' (AV.renL ρ l) us
  | _, _, .nil, _ => .nil
  | _, _, .cons v u r s h h', hn => .cons _ u _ s (ren_rep v u h fun n k hm => hn n k (by simp [AV.namesL, hm])) (renL_rep r s h' fun n k hm => hn n k (by simp [AV.namesL, hm]))
end

theorem hget_fm_of {α : Type} (h : α → Option Blk) (ρ : α → Nat) (g : Blk → Blk) : ∀ (l : List α) (x : α) (b : Blk), (∀ y ∈ l, ρ y = ρ x → h y = h x) → x ∈ l → h x = some b → hget (l.filterMap fun x => (h x).map fun b => (ρ x, g b)) (ρ x) = some (g b)
  | [], _, _, _, hm, _ => by cases hm
  | y :: r, x, b, hinj, hm, hb => by
    by_cases e : ρ y = ρ x
    · have hy := hinj y List.mem_cons_self e
      rw [List.filterMap_cons, hy, hb]
      simp only [Option.map_some, e]
      exact hget_cons_self _ _ _
    · have hxr : x ∈ r := by
        rcases List.mem_cons.1 hm with rfl | h
        · exact absurd rfl e
        · exact h
      have ih := hget_fm_of h ρ g r x b (fun z hz => hinj z (List.mem_cons_of_mem _ hz)) hxr hb
      rw [List.filterMap_cons]
      cases hy : h y with
      | none => exact ih
      | some c =>
        simp only [Option.map_some]
        rw [hget_cons_ne _ _ e]
        exact ih

theorem hget_fm_inv {α : Type} (h : α → Option Blk) (ρ : α → Nat) (g : Blk → Blk) : ∀ (l : List α) (m : Nat) (b' : Blk), hget (l.filterMap fun x => (h x).map fun b => (ρ x, g b)) m = some b' → ∃ x b, x ∈ l ∧ ρ x = m ∧ h x = some b ∧ b' = g b
  | [], m, b', hm => by cases hm
  | y :: r, m, b', hm => by
    rw [List.filterMap_cons] at hm
    cases hy : h y with
    | none =>
      rw [hy] at hm
      obtain ⟨x, b, h1, h2⟩ := hget_fm_inv h ρ g r m b' hm
      exact ⟨x, b, List.mem_cons_of_mem _ h1, h2⟩
    | some c =>
      rw [hy] at hm
      simp only [Option.map_some] at hm
      by_cases e : ρ y = m
      · subst e
        rw [hget_cons_self] at hm
        cases hm
        exact ⟨y, c, List.mem_cons_self, rfl, hy, rfl⟩
      · rw [hget_cons_ne _ _ e] at hm
        obtain ⟨x, b, h1, h2⟩ := hget_fm_inv h ρ g r m b' hm
        exact ⟨x, b, List.mem_cons_of_mem _ h1, h2⟩

theorem brep_ren {β β' : Bt} {ρ : Nat → Nat} {w : World} {base : Nat} {l : Loc} {b : Blk} (hB : BRep β w base l b) (hn : ∀ o vs, b = .vals o vs → ∀ n k, n ∈ AV.namesL vs → β n = some k → β' (ρ n) = some k) : BRep β' w base l (b.ren ρ) := by
  obtain ⟨U, hU1, hU2, hU3⟩ := VReps.of_cells (fun j => w.cell? ⟨l.blk, l.off + j, none⟩) b.cl hB.cells
  have hcl : VReps β' (b.ren ρ).cl U := by
    cases b with
    | vals o vs => exact renL_rep vs U hU3 (hn o vs rfl)
    | arr o κ l => exact flat_free hU3
    | dead => exact hU3 |> fun h => by cases h; exact .nil
  have hlen : (b.ren ρ).cl.length = b.cl.length := by rw [hcl.length, hU2]
  refine ⟨by rw [hB.own]; cases b <;> rfl, ?_, by rw [hB.es]; cases b <;> rfl, fun j v hj => ?_, fun h => hB.mine (by cases b <;> exact h), fun h => hB.room (by cases b <;> exact h), fun h hne => hB.other (by cases b <;> exact h) fun h0 => hne ?_⟩
  · rw [hB.len]
    cases b with
    | vals o vs => exact hlen.symm
    | arr o κ l => rfl
    | dead => rfl
  · obtain ⟨u, hu, hv⟩ := hcl.get j hj
    exact ⟨u, hU1 j u hu, hv⟩
  · rw [h0] at hlen
    exact List.eq_nil_of_length_eq_zero hlen

theorem keep_rep {β : Bt} {keep : List Nat} {s : St} {us : List Value} (h : VReps β s.tm us) : VReps β (normTm keep s) us := by
  refine VReps.mk' (by unfold normTm; rw [List.length_mapIdx, h.length]) fun t ht => ?_
  unfold normTm
  have ht' : t < s.tm.length := by unfold normTm at ht; rwa [List.length_mapIdx] at ht
  have h1 := h.getD t undef
  rw [List.getD_eq_getElem?_getD, List.getElem?_mapIdx, List.getElem?_eq_getElem ht']
  simp only [Option.map_some, Option.getD_some]
  cases keep.any (Nat.beq t) with
  | true =>
    rw [List.getD_eq_getElem?_getD, List.getElem?_eq_getElem ht'] at h1
    exact h1
  | false => exact .top _

theorem normO_sound {β0 β : Bt} {base : Nat} {s s2 : St} {a : Act} {w : World} {pre keep : List Nat} {lb : Nat} (hβ : β0.le β) (hpre : ∀ n l, β0 n = some l → n ∈ pre) (hs : SR β base s a w) (h : normO pre lb keep s = some s2) : ∃ β', β0.le β' ∧ SR β' base s2 a w := by
  unfold normO at h
  dsimp only at h
  generalize normAll pre keep s = all at h
  generalize hown : normOwn pre all = own at h
  generalize hok : normOk pre lb keep all own s = ok at h
  cases ok with
  | false => cases h
  | true =>
  cases h
  unfold normOk at hok
  simp only [Bool.and_eq_true] at hok
  obtain ⟨⟨⟨h1, h2⟩, h3⟩, h4⟩ := hok
  have h1' : ∀ x ∈ pre, x < lb ∨ lb + own.length ≤ x := fun x hx => by
    have := List.all_eq_true.1 h1 x hx
    simpa [Nat.blt_eq] using this
  have h2' : ∀ n ∈ AV.namesL (normTm keep s), n ∈ all := fun n hn => inN_mem.1 (List.all_eq_true.1 h2 n hn)
  have h3' : ∀ x ∈ all, ∀ o vs, hget s.hp x = some (.vals o vs) → ∀ n ∈ AV.namesL vs, n ∈ all := fun x hx o vs hv n hn => by
    have := List.all_eq_true.1 h3 x hx
    rw [hv] at this
    exact inN_mem.1 (List.all_eq_true.1 this n hn)
  have h4' : ∀ x ∈ pre, x ∈ all := fun x hx => inN_mem.1 (List.all_eq_true.1 h4 x hx)
  have hownm : ∀ x ∈ all, x ∉ pre → x ∈ own := fun x hx hn => by
    rw [← hown]
    unfold normOwn
    rw [List.mem_filter]
    refine ⟨hx, ?_⟩
    cases hb : pre.any (Nat.beq x) with
    | false => rfl
    | true => exact absurd (inN_mem.1 hb) hn
  have rpre : ∀ x ∈ pre, normRen pre own lb x = x := fun x hx => by
    unfold normRen
    rw [show pre.any (Nat.beq x) = true from inN_mem.2 hx]; rfl
  have rown : ∀ x, x ∉ pre → normRen pre own lb x = lb + posOf x own 0 := fun x hx => by
    unfold normRen
    cases hb : pre.any (Nat.beq x) with
    | false => rfl
    | true => exact absurd (inN_mem.1 hb) hx
  have inj : ∀ x ∈ all, ∀ y ∈ all, normRen pre own lb x = normRen pre own lb y → x = y := by
    intro x hx y hy e
    by_cases px : x ∈ pre
    · by_cases py : y ∈ pre
      · rwa [rpre x px, rpre y py] at e
      · rw [rpre x px, rown y py] at e
        have := posOf_lt own 0 y (hownm y hy py)
        rcases h1' x px with h | h <;> omega
    · by_cases py : y ∈ pre
      · rw [rown x px, rpre y py] at e
        have := posOf_lt own 0 x (hownm x hx px)
        rcases h1' y py with h | h <;> omega
      · rw [rown x px, rown y py] at e
        exact posOf_inj own 0 x y (hownm x hx px) (hownm y hy py) (by omega)
  generalize hρ : normRen pre own lb = ρ at *
  let β' : Bt := fun m => (all.find? fun x => Nat.beq (ρ x) m && (hget s.hp x).isSome).bind β
  have hβ' : ∀ x ∈ all, ∀ l, β x = some l → β' (ρ x) = some l := by
    intro x hx l hl
    have hsome : (hget s.hp x).isSome = true := by
      cases hg : hget s.hp x with
      | some b => rfl
      | none => rw [hs.rep.dom x hg] at hl; cases hl
    show (all.find? fun y => Nat.beq (ρ y) (ρ x) && (hget s.hp y).isSome).bind β = some l
    cases hf : all.find? fun y => Nat.beq (ρ y) (ρ x) && (hget s.hp y).isSome with
    | none =>
      have := List.find?_eq_none.1 hf x hx
      rw [Nat.beq_refl, hsome] at this
      exact absurd rfl this
    | some y =>
      have h5 := List.find?_some hf
      have h6 := List.mem_of_find?_eq_some hf
      simp only [Bool.and_eq_true] at h5
      have := inj y h6 x hx (Nat.eq_of_beq_eq_true h5.1)
      subst this
      exact hl
  have inv : ∀ m l, β' m = some l → ∃ x, x ∈ all ∧ ρ x = m ∧ (∃ b, hget s.hp x = some b) ∧ β x = some l := by
    intro m l hm
    have hm' : (all.find? fun y => Nat.beq (ρ y) m && (hget s.hp y).isSome).bind β = some l := hm
    cases hf : all.find? fun y => Nat.beq (ρ y) m && (hget s.hp y).isSome with
    | none => rw [hf] at hm'; cases hm'
    | some y =>
      rw [hf] at hm'
      have h5 := List.find?_some hf
      simp only [Bool.and_eq_true] at h5
      exact ⟨y, List.mem_of_find?_eq_some hf, Nat.eq_of_beq_eq_true h5.1, Option.isSome_iff_exists.1 h5.2, hm'⟩
  have ofAll : ∀ x ∈ all, ∀ b, hget s.hp x = some b → hget (normTo pre lb keep all own s).hp (ρ x) = some (b.ren ρ) := by
    intro x hx b hb
    unfold normTo
    rw [hρ]
    exact hget_fm_of (hget s.hp) ρ (·.ren ρ) all x b (fun y hy e => by rw [inj y hy x hx e]) hx hb
  have toAll : ∀ m b', hget (normTo pre lb keep all own s).hp m = some b' → ∃ x b, x ∈ all ∧ ρ x = m ∧ hget s.hp x = some b ∧ b' = b.ren ρ := by
    intro m b' hm
    unfold normTo at hm
    rw [hρ] at hm
    exact hget_fm_inv (hget s.hp) ρ (·.ren ρ) all m b' hm
  have ownRen : ∀ b : Blk, (b.ren ρ).live → b.live := fun b h => by cases b <;> exact h
  refine ⟨β', fun n l hn => ?_, ⟨?_, ⟨fun m hm => ?_, fun m b' hm => ?_, fun m b' l hm hlive hl => ?_, fun m m' b b' l l' hne hm hm' k1 k2 k3 k4 k5 k6 k7 k8 => ?_⟩, hs.base, hs.defers⟩⟩
  · have hp := hpre n l hn
    have := hβ' n (h4' n hp) l (hβ n l hn)
    rwa [rpre n hp] at this
  · show VReps β' (normTo pre lb keep all own s).tm _
    unfold normTo
    rw [hρ]
    exact renL_rep _ _ (keep_rep hs.tm) fun n l hn hl => hβ' n (h2' n hn) l hl
  · cases hb : β' m with
    | none => rfl
    | some l =>
      obtain ⟨x, hx, rfl, ⟨b, hg⟩, _⟩ := inv m l hb
      rw [ofAll x hx b hg] at hm; cases hm
  · obtain ⟨x, b, hx, rfl, hg, _⟩ := toAll m b' hm
    obtain ⟨l, hl⟩ := hs.rep.loc x b hg
    exact ⟨l, hβ' x hx l hl⟩
  · obtain ⟨x, b, hx, rfl, hg, rfl⟩ := toAll m b' hm
    obtain ⟨l0, hl0⟩ := hs.rep.loc x b hg
    rw [hβ' x hx l0 hl0] at hl; cases hl
    exact brep_ren (hs.rep.blk x b l hg (ownRen b hlive) hl0) fun o vs e n k hn hk => hβ' n (h3' x hx o vs (by rw [← e]; exact hg) n hn) k hk
  · obtain ⟨x, b1, hx, rfl, hg, rfl⟩ := toAll m b hm
    obtain ⟨y, b2, hy, rfl, hg', rfl⟩ := toAll m' b' hm'
    obtain ⟨l1, hl1⟩ := hs.rep.loc x b1 hg
    obtain ⟨l2, hl2⟩ := hs.rep.loc y b2 hg'
    rw [hβ' x hx l1 hl1] at k3; cases k3
    rw [hβ' y hy l2 hl2] at k4; cases k4
    exact hs.rep.sep x y b1 b2 l l' (fun e => hne (by rw [e])) hg hg' (ownRen _ k1) (ownRen _ k2) hl1 hl2 k5 k6 k7 k8
end Go.Ab
