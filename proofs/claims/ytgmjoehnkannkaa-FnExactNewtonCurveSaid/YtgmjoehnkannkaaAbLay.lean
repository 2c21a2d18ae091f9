/-
  A callee's results, named.
-/
import Derived.Test.YtgmjoehnkannkaaAbCall
namespace Go.Ab
open Go.RowKit

def lget : List (Nat × Loc) → Nat → Option Loc
  | [], _ => none
  | (m, l) :: r, n => bif Nat.beq m n then some l else lget r n

structure LOk (w : World) (B : Nat) (l : Loc) (b : Blk) : Prop where
  live : b.live
  own : b.own = true
  rep : ∀ β', BRep β' w B l b

inductive Lays (w : World) (B : Nat) : List (Nat × Loc) → Heap → List Nat → Prop
  | nil : Lays w B [] [] []
  | skip (n : Nat) (l : Loc) (b : Blk) (r : List (Nat × Loc)) (d : Heap) (bl : List Nat) : l.size = 0 → LOk w B l b → Lays w B r d bl → Lays w B ((n, l) :: r) ((n, b) :: d) bl
  | take (n : Nat) (l : Loc) (b : Blk) (r : List (Nat × Loc)) (d : Heap) (bl : List Nat) : LOk w B l b → Lays w B r d bl → Lays w B ((n, l) :: r) ((n, b) :: d) (l.blk :: bl)

theorem Lays.append {w : World} {B : Nat} {a a' : List (Nat × Loc)} {d d' : Heap} {b b' : List Nat} (h : Lays w B a d b) (h' : Lays w B a' d' b') : Lays w B (a ++ a') (d ++ d') (b ++ b') := by
  induction h with
  | nil => exact h'
  | skip n l b r d bl h0 h1 _ ih => exact .skip n l b _ _ _ h0 h1 ih
  | take n l b r d bl h1 _ ih => exact .take n l b _ _ _ h1 ih

def Dist : Heap → Prop
  | [] => True
  | (n, _) :: r => hget r n = none ∧ Dist r

theorem Lays.get {w : World} {B : Nat} {a : List (Nat × Loc)} {d : Heap} {bl : List Nat} (h : Lays w B a d bl) {n : Nat} {b : Blk} (hn : hget d n = some b) : ∃ l, lget a n = some l ∧ LOk w B l b := by
  induction h with
  | nil => simp [hget] at hn
  | skip m l b' r d bl h0 h1 _ ih =>
    unfold lget
    cases hb : Nat.beq m n with
    | true => simp only [hget, hb, cond_true, Option.some.injEq] at hn; subst hn; exact ⟨l, rfl, h1⟩
    | false => simp only [hget, hb, cond_false] at hn; exact ih hn
  | take m l b' r d bl h1 _ ih =>
    unfold lget
    cases hb : Nat.beq m n with
    | true => simp only [hget, hb, cond_true, Option.some.injEq] at hn; subst hn; exact ⟨l, rfl, h1⟩
    | false => simp only [hget, hb, cond_false] at hn; exact ih hn

theorem Lays.none {w : World} {B : Nat} {a : List (Nat × Loc)} {d : Heap} {bl : List Nat} (h : Lays w B a d bl) {n : Nat} (hn : hget d n = none) : lget a n = none := by
  induction h with
  | nil => rfl
  | skip m l b' r d bl h0 h1 _ ih =>
    unfold lget
    cases hb : Nat.beq m n with
    | true => simp [hget, hb] at hn
    | false => simp only [hget, hb, cond_false] at hn; exact ih hn
  | take m l b' r d bl h1 _ ih =>
    unfold lget
    cases hb : Nat.beq m n with
    | true => simp [hget, hb] at hn
    | false => simp only [hget, hb, cond_false] at hn; exact ih hn

theorem Lays.mem_blk {w : World} {B : Nat} {a : List (Nat × Loc)} {d : Heap} {bl : List Nat} (h : Lays w B a d bl) {n : Nat} {l : Loc} (hn : lget a n = some l) (hs : 0 < l.size) : l.blk ∈ bl := by
  induction h with
  | nil => simp [lget] at hn
  | skip m l' b' r d bl h0 h1 _ ih =>
    unfold lget at hn
    cases hb : Nat.beq m n with
    | true => simp only [hb, cond_true, Option.some.injEq] at hn; subst hn; omega
    | false => simp only [hb, cond_false] at hn; exact ih hn
  | take m l' b' r d bl h1 _ ih =>
    unfold lget at hn
    cases hb : Nat.beq m n with
    | true => simp only [hb, cond_true, Option.some.injEq] at hn; subst hn; exact List.mem_cons_self ..
    | false => simp only [hb, cond_false] at hn; exact List.mem_cons_of_mem _ (ih hn)

theorem Lays.sep {w : World} {B : Nat} {a : List (Nat × Loc)} {d : Heap} {bl : List Nat} (h : Lays w B a d bl) (hd : bl.Nodup) {n m : Nat} {l l' : Loc} (hnm : n ≠ m) (hn : lget a n = some l) (hm : lget a m = some l') (hs : 0 < l.size) (hs' : 0 < l'.size) : l.blk ≠ l'.blk := by
  induction h with
  | nil => simp [lget] at hn
  | skip k lk b' r d bl h0 h1 hr ih =>
    unfold lget at hn hm
    cases hb : Nat.beq k n with
    | true => simp only [hb, cond_true, Option.some.injEq] at hn; subst hn; omega
    | false =>
      cases hb' : Nat.beq k m with
      | true => simp only [hb', cond_true, Option.some.injEq] at hm; subst hm; omega
      | false => simp only [hb, hb', cond_false] at hn hm; exact ih hd hn hm
  | take k lk b' r d bl h1 hr ih =>
    unfold lget at hn hm
    obtain ⟨hd1, hd2⟩ := List.nodup_cons.1 hd
    cases hb : Nat.beq k n with
    | true =>
      simp only [hb, cond_true, Option.some.injEq] at hn; subst hn
      cases hb' : Nat.beq k m with
      | true => exact absurd ((Nat.eq_of_beq_eq_true hb).symm.trans (Nat.eq_of_beq_eq_true hb')) hnm
      | false =>
        simp only [hb', cond_false] at hm
        have := hr.mem_blk hm hs'
        intro e; rw [e] at hd1; exact hd1 this
    | false =>
      simp only [hb, cond_false] at hn
      cases hb' : Nat.beq k m with
      | true =>
        simp only [hb', cond_true, Option.some.injEq] at hm; subst hm
        have := hr.mem_blk hn hs
        intro e; rw [← e] at hd1; exact hd1 this
      | false => simp only [hb', cond_false] at hm; exact ih hd2 hn hm

/-- Values under places for new names. -/
def KnowsV (ls : List (Nat × Loc)) (v : AV) (u : Value) : Prop := ∀ β' : Bt, (∀ p ∈ ls, β' p.1 = some p.2) → VRep β' v u
def KnowsVs (ls : List (Nat × Loc)) (v : List AV) (u : List Value) : Prop := ∀ β' : Bt, (∀ p ∈ ls, β' p.1 = some p.2) → VReps β' v u

section
variable {w : World} {B : Nat}

theorem lay_list (nm j : Nat) (κ : EK) (l : List κ.den) (u : Value) (bl : List Nat) (h : ListOut w B κ l u bl) :
    ∃ ls, Lays w B ls [(nm + j, .arr true κ l)] bl ∧ KnowsV ls (.slc (nm + j) 0 l.length) u := by
  obtain ⟨a, cap, rfl, h | ⟨blk, o, size, rfl, h1, h2, h3, h4, h5, h6, rfl⟩⟩ := h
  · obtain ⟨rfl, rfl, rfl⟩ := h
    refine ⟨[(nm + j, phLoc (.arr true κ []))], .skip _ _ _ _ _ _ rfl ⟨trivial, rfl, fun β' => ⟨rfl, rfl, rfl, fun j x hj => by simp [Blk.cl] at hj, fun _ h => by simp [phLoc] at h, fun _ => by simp [phLoc, Blk.len], fun h => by cases h⟩⟩ .nil, fun β' hβ => ?_⟩
    exact .slc _ _ _ _ _ _ (hβ _ (List.mem_singleton_self _)) ⟨Nat.le_refl _, .inl ⟨rfl, fun _ => rfl⟩⟩
  · refine ⟨[(nm + j, ⟨blk, o, size, l.length, κ.size, true⟩)], .take _ _ _ _ _ _ ⟨trivial, rfl, fun β' => ⟨rfl, rfl, rfl, fun j x hj => ?_, fun _ _ => ⟨h3, h4, h5⟩, fun _ => by have := Nat.mul_le_mul_right κ.size h1; show o + l.length * κ.size ≤ size; omega, fun h => by cases h⟩⟩ .nil, fun β' hβ => ?_⟩
    · obtain ⟨u, hu, hx⟩ := h6 j x hj
      exact ⟨u, hu, ek_flat hj hx⟩
    · refine .slc _ _ _ _ _ _ (hβ _ (List.mem_singleton_self _)) ⟨by simp, .inr ⟨by simp, h1, fun _ => ?_⟩⟩
      simpa using h2

theorem lay_c (nm : Nat) (d : DS) (x : d.den) (j : Nat) (u : Value) (bl : List Nat) (h : DOutC w B d x u bl) :
    ∃ ls, Lays w B ls (d.lay nm x j).2.1 bl ∧ KnowsV ls (d.lay nm x j).1 u := by
  cases d with
  | bool => obtain ⟨rfl, rfl⟩ := h; exact ⟨[], .nil, fun _ _ => .bs _⟩
  | int k => obtain ⟨rfl, rfl⟩ := h; exact ⟨[], .nil, fun _ _ => .int _ _⟩
  | flt k => obtain ⟨⟨b, hb, rfl⟩, rfl⟩ := h; exact ⟨[], .nil, fun _ _ => .flt _ _ _ hb⟩
  | cpx k => obtain ⟨⟨a, b, ha, hb, rfl⟩, rfl⟩ := h; exact ⟨[], .nil, fun _ _ => .cpx _ _ _ _ _ ha hb⟩
  | str => obtain ⟨rfl, rfl⟩ := h; exact ⟨[], .nil, fun _ _ => .str _⟩
  | list κ => exact lay_list nm j κ x u bl h
  | agg l => exact h.elim
  | ptr d => exact h.elim

theorem lay_cs (nm : Nat) : ∀ (d : List DS) (x : DS.dens d) (j : Nat) (us : List Value) (bl : List Nat), DOutCs w B d x us bl →
    ∃ ls, Lays w B ls (DS.lays nm d x j).2.1 bl ∧ KnowsVs ls (DS.lays nm d x j).1 us
  | [], _, _, us, bl, h => by obtain ⟨rfl, rfl⟩ := h; exact ⟨[], .nil, fun _ _ => .nil⟩
  | [d], x, j, us, bl, h => by
    obtain ⟨v, rfl, h⟩ := h
    obtain ⟨ls, h1, h2⟩ := lay_c nm d x j v bl h
    exact ⟨ls, h1, fun β' hβ => VReps.one (h2 β' hβ)⟩
  | d :: e :: r, x, j, us, bl, h => by
    obtain ⟨v, s, b1, b2, rfl, rfl, h1, h2⟩ := h
    obtain ⟨l1, h3, h4⟩ := lay_c nm d x.1 j v b1 h1
    obtain ⟨l2, h5, h6⟩ := lay_cs nm (e :: r) x.2 (d.lay nm x.1 j).2.2 s b2 h2
    exact ⟨l1 ++ l2, h3.append h5, fun β' hβ => .cons _ _ _ _ (h4 β' fun p hp => hβ p (List.mem_append_left _ hp)) (h6 β' fun p hp => hβ p (List.mem_append_right _ hp))⟩

theorem lay_r (nm : Nat) (d : DS) (x : d.den) (j : Nat) (u : Value) (bl : List Nat) (h : DOut w B d x u bl) :
    ∃ ls, Lays w B ls (d.layRes nm x j).2.1 bl ∧ KnowsV ls (d.layRes nm x j).1 u := by
  cases d with
  | agg l =>
    obtain ⟨cs, rfl, h⟩ := h
    obtain ⟨ls, h1, h2⟩ := lay_cs nm l x j cs.toList bl h
    exact ⟨ls, h1, fun β' hβ => .agg _ _ (h2 β' hβ)⟩
  | bool => exact lay_c nm .bool x j u bl h
  | int k => exact lay_c nm (.int k) x j u bl h
  | flt k => exact lay_c nm (.flt k) x j u bl h
  | cpx k => exact lay_c nm (.cpx k) x j u bl h
  | str => exact lay_c nm .str x j u bl h
  | list κ => exact lay_c nm (.list κ) x j u bl h
  | ptr d => exact h.elim

theorem lay_t (nm : Nat) : ∀ (d : List DS) (x : DS.dens d) (j : Nat) (us : List Value) (bl : List Nat), DOutT w B d x us bl →
    ∃ ls, Lays w B ls (DS.layTup nm d x j).2.1 bl ∧ KnowsVs ls (DS.layTup nm d x j).1 us
  | [], _, _, us, bl, h => by obtain ⟨rfl, rfl⟩ := h; exact ⟨[], .nil, fun _ _ => .nil⟩
  | [d], x, j, us, bl, h => by
    obtain ⟨v, rfl, h⟩ := h
    obtain ⟨ls, h1, h2⟩ := lay_r nm d x j v bl h
    exact ⟨ls, h1, fun β' hβ => VReps.one (h2 β' hβ)⟩
  | d :: e :: r, x, j, us, bl, h => by
    obtain ⟨v, s, b1, b2, rfl, rfl, h1, h2⟩ := h
    obtain ⟨l1, h3, h4⟩ := lay_r nm d x.1 j v b1 h1
    obtain ⟨l2, h5, h6⟩ := lay_t nm (e :: r) x.2 (d.layRes nm x.1 j).2.2 s b2 h2
    exact ⟨l1 ++ l2, h3.append h5, fun β' hβ => .cons _ _ _ _ (h4 β' fun p hp => hβ p (List.mem_append_left _ hp)) (h6 β' fun p hp => hβ p (List.mem_append_right _ hp))⟩

theorem Lays.knows {a : List (Nat × Loc)} {d : Heap} {bl : List Nat} (h : Lays w B a d bl) (hd : Dist d) : ∀ p ∈ a, lget a p.1 = some p.2 := by
  induction h with
  | nil => intro p hp; cases hp
  | skip n l b r d bl h0 h1 hr ih =>
    intro p hp
    rcases List.mem_cons.1 hp with rfl | hp
    · unfold lget; rw [Nat.beq_refl]; rfl
    · unfold lget
      have hne : Nat.beq n p.1 = false := by
        cases hb : Nat.beq n p.1 with
        | false => rfl
        | true =>
          have := Nat.eq_of_beq_eq_true hb
          have h2 := hr.none (n := p.1) (by rw [← this]; exact hd.1)
          rw [ih hd.2 p hp] at h2; cases h2
      rw [hne]; exact ih hd.2 p hp
  | take n l b r d bl h1 hr ih =>
    intro p hp
    rcases List.mem_cons.1 hp with rfl | hp
    · unfold lget; rw [Nat.beq_refl]; rfl
    · unfold lget
      have hne : Nat.beq n p.1 = false := by
        cases hb : Nat.beq n p.1 with
        | false => rfl
        | true =>
          have := Nat.eq_of_beq_eq_true hb
          have h2 := hr.none (n := p.1) (by rw [← this]; exact hd.1)
          rw [ih hd.2 p hp] at h2; cases h2
      rw [hne]; exact ih hd.2 p hp
end

/-- new blocks whose names are new in h -/
theorem fresh_spec (h : Heap) : ∀ (d : Heap), fresh h d = true → (∀ n b, hget d n = some b → hget h n = none) ∧ Dist d
  | [], _ => ⟨fun n b h => by simp [hget] at h, trivial⟩
  | (m, c) :: r, hf => by
    unfold fresh at hf
    simp only [Bool.and_eq_true, Option.isNone_iff_eq_none] at hf
    obtain ⟨⟨h1, h2⟩, h3⟩ := hf
    obtain ⟨i1, i2⟩ := fresh_spec h r h3
    refine ⟨fun n b hn => ?_, h2, i2⟩
    by_cases e : m = n
    · subst e; exact h1
    · rw [hget_cons_ne _ _ e] at hn; exact i1 n b hn

theorem Dist.fresh {β : Bt} {d : Heap} (h : Dist d) (h' : ∀ n b, hget d n = some b → β n = none) : FreshIn β d := by
  refine ⟨h', fun n b d' e => ?_⟩
  subst e; exact h.1

theorem useSpec_post {P : Program} {β : Bt} {g h : Heap} {w : World} {base : Nat} {f : Nat} {s : FSpec} (hS : SpecOk' P f s) (hs : Sub g h) (hr : Rep β h w base) (args : List AV) (vs : Array Value) (hv : VReps β args vs.toList) (nm : Nat)
    (r : AV × Heap) (he : (useSpec s args g nm).den = some r) (hd : Dist r.2) (hβ : ∀ n b, hget r.2 n = some b → β n = none) :
    CallOr P f vs w fun u w' => AddPost β w r.1 r.2 u w' := by
  unfold useSpec at he
  split at he
  · exact (den_fail he).elim
  · rename_i x hx
    obtain ⟨y, h1, h2⟩ := den_bnd he
    have h3 := den_ret h2
    refine (hS x y h1 w vs (reads_rep hs hr _ _ _ _ hx hv)).mono fun u w' ⟨hb, bl, hbl, us, hT, hu⟩ => ?_
    obtain ⟨ls, hL, hK⟩ := lay_t (nm * 1024 + 1000) s.res y 0 us bl hT
    rw [← h3] at hd hβ ⊢
    simp only at hd hβ ⊢
    let β' : Bt := fun n => match lget ls n with | some l => some l | none => β n
    have hle : β.le β' := by
      intro n l hn
      show (match lget ls n with | some l => some l | none => β n) = some l
      cases hg : lget ls n with
      | none => exact hn
      | some l' =>
        cases hgd : hget (DS.layTup (nm * 1024 + 1000) s.res y 0).2.1 n with
        | none => rw [hL.none hgd] at hg; cases hg
        | some b => rw [hβ n b hgd] at hn; cases hn
    have hknow : ∀ p ∈ ls, β' p.1 = some p.2 := fun p hp => by
      show (match lget ls p.1 with | some l => some l | none => β p.1) = some p.2
      rw [hL.knows hd p hp]
    refine ⟨β', hle, hb, ?_, fun n hn => ?_, ⟨fun n b hn => ?_, fun n m b b' l l' hnm hn hm h4 h5 h6 h7 => ?_⟩⟩
    · have := hK β' hknow
      rcases hu with ⟨v, rfl, rfl⟩ | ⟨hne, rfl⟩
      · generalize (DS.layTup (nm * 1024 + 1000) s.res y 0).1 = avs at this ⊢
        cases this with
        | cons a _ r _ h1 h2 => cases h2; exact h1
      · generalize (DS.layTup (nm * 1024 + 1000) s.res y 0).1 = avs at this ⊢
        split
        · cases this with
          | cons a b r _ h1 h2 => cases h2; exact absurd rfl (hne _)
        · exact .tup _ _ (by simpa using this)
    · show (match lget ls n with | some l => some l | none => β n) = β n
      rw [hL.none hn]
    · obtain ⟨l, hl, hok⟩ := hL.get hn
      exact ⟨hok.live, hok.own, l, by show (match lget ls n with | some l => some l | none => β n) = some l; rw [hl], hok.rep β'⟩
    · obtain ⟨k, hk, _⟩ := hL.get hn
      obtain ⟨k', hk', _⟩ := hL.get hm
      have e1 : l = k := by
        have : β' n = some l := h4
        have h8 : β' n = some k := by show (match lget ls n with | some l => some l | none => β n) = some k; rw [hk]
        rw [h8] at this; cases this; rfl
      have e2 : l' = k' := by
        have : β' m = some l' := h5
        have h8 : β' m = some k' := by show (match lget ls m with | some l => some l | none => β m) = some k'; rw [hk']
        rw [h8] at this; cases this; rfl
      subst e1 e2
      exact hL.sep hbl hnm hk hk' h6 h7

end Go.Ab
