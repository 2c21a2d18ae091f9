/-
  A function as a plain function of data: it is told rightly.
-/
import Derived.Test.YtgmjoehnkannkaaAbFun
namespace Go.Ab
open Go.RowKit

/-! ### Arguments -/
def Ext (β : Bt) (ls : List (Nat × Loc)) : Prop := ∀ n l, (n, l) ∈ ls → β n = some l

structure AOk (w : World) (nm j j' : Nat) (h : Heap) (ls : List (Nat × Loc)) : Prop where
  le : j ≤ j'
  names : ls.map (·.1) = h.map (·.1)
  rng : ∀ n, n ∈ h.map (·.1) → nm + j ≤ n ∧ n < nm + j'
  nodup : (h.map (·.1)).Nodup
  blk : ∀ n b, (n, b) ∈ h → ∃ l, (n, l) ∈ ls ∧ b.own = false ∧ ∀ β, BRep β w w.heap.size l b

theorem AOk.nil (w : World) (nm j : Nat) : AOk w nm j j [] [] := ⟨Nat.le_refl _, rfl, fun n h => (by cases h), List.nodup_nil, fun n b h => (by cases h)⟩

theorem AOk.append {w : World} {nm j k m : Nat} {h h' : Heap} {ls ls' : List (Nat × Loc)} (a : AOk w nm j k h ls) (b : AOk w nm k m h' ls') : AOk w nm j m (h ++ h') (ls ++ ls') := by
  refine ⟨Nat.le_trans a.le b.le, by rw [List.map_append, List.map_append, a.names, b.names], fun n hn => ?_, ?_, fun n c hn => ?_⟩
  · rw [List.map_append, List.mem_append] at hn
    have h1 := a.le
    have h2 := b.le
    rcases hn with hn | hn
    · have := a.rng n hn; omega
    · have := b.rng n hn; omega
  · rw [List.map_append]
    refine List.nodup_append.2 ⟨a.nodup, b.nodup, fun x hx y hy e => ?_⟩
    have h1 := a.rng x hx
    have h2 := b.rng y hy
    omega
  · rcases List.mem_append.1 hn with hn | hn
    · obtain ⟨l, h1, h2⟩ := a.blk n c hn
      exact ⟨l, List.mem_append_left _ h1, h2⟩
    · obtain ⟨l, h1, h2⟩ := b.blk n c hn
      exact ⟨l, List.mem_append_right _ h1, h2⟩

theorem list_ok {w : World} (nm : Nat) {κ : EK} {l : List κ.den} {u : Value} (j : Nat) (h : ListAt w κ l u) :
    ∃ ls, AOk w nm j (j + 1) [(nm + j, .arr false κ l)] ls ∧ ∀ β, Ext β ls → VRep β (.slc (nm + j) 0 l.length) u := by
  obtain ⟨a, cap, rfl, hcap, hc⟩ := h
  have mk : ∀ loc : Loc, loc.own = false → loc.len = l.length → loc.es = κ.size → (∀ β, CRep β w loc (l.flatMap κ.cells)) → ((l.flatMap κ.cells) ≠ [] → loc.blk < w.heap.size) → AOk w nm j (j + 1) [(nm + j, .arr false κ l)] [(nm + j, loc)] := by
    intro loc h1 h2 h3 h4 h5
    refine ⟨by omega, rfl, fun n hn => ?_, by simp, fun n b hn => ?_⟩
    · simp at hn; omega
    · simp only [List.mem_singleton, Prod.mk.injEq] at hn
      obtain ⟨rfl, rfl⟩ := hn
      exact ⟨loc, List.mem_singleton_self _, rfl, fun β => ⟨h1, h2, h3, h4 β, fun h => (by cases h), fun h => (by cases h), fun _ hne => h5 hne⟩⟩
  by_cases h0 : l = []
  · subst h0
    refine ⟨[(nm + j, ⟨0, 0, 0, 0, κ.size, false⟩)], mk _ rfl rfl rfl (fun β j v hj => by simp at hj) (fun h => absurd rfl h), fun β hβ => ?_⟩
    exact .slc _ _ _ ⟨0, 0, 0, 0, κ.size, false⟩ _ _ (hβ _ _ (List.mem_singleton_self _)) ⟨by simp, .inl ⟨rfl, fun h => (by cases h)⟩⟩
  · rcases hc with hc | ⟨blk, o, ha, hc⟩
    · exact absurd hc h0
    · subst ha
      refine ⟨[(nm + j, ⟨blk, o, 0, l.length, κ.size, false⟩)], mk _ rfl rfl rfl (fun β j v hj => ?_) (fun hne => ?_), fun β hβ => ?_⟩
      · obtain ⟨u, hu, hv⟩ := hc j v hj
        exact ⟨u, hu, ek_flat hj hv⟩
      · obtain ⟨u, hu, _⟩ := hc 0 _ (List.getElem?_eq_getElem (List.length_pos_iff.2 hne))
        exact cell_lt hu
      · refine .slc _ _ _ ⟨blk, o, 0, l.length, κ.size, false⟩ _ _ (hβ _ _ (List.mem_singleton_self _)) ⟨by simp, .inr ⟨by simp, hcap, fun h => (by cases h)⟩⟩

theorem arg_ok {w : World} (nm : Nat) : ∀ (d : DS) (x : d.den) (u : Value) (j : Nat), DRep w d x u → ∃ ls, AOk w nm j (DS.arg nm d x j).2.2 (DS.arg nm d x j).2.1 ls ∧ ∀ β, Ext β ls → VRep β (DS.arg nm d x j).1 u
  | .bool, x, u, j, h => ⟨[], .nil w nm j, fun β _ => by have h' : u = .bool x := h; subst h'; exact .bs x⟩
  | .int k, x, u, j, h => ⟨[], .nil w nm j, fun β _ => by have h' : u = .int k x := h; subst h'; exact .int k x⟩
  | .flt k, x, u, j, h => ⟨[], .nil w nm j, fun β _ => by obtain ⟨b, h1, rfl⟩ := h; exact .flt k x b h1⟩
  | .cpx k, x, u, j, h => ⟨[], .nil w nm j, fun β _ => by obtain ⟨a, b, h1, h2, rfl⟩ := h; exact .cpx k _ _ a b h1 h2⟩
  | .str, x, u, j, h => ⟨[], .nil w nm j, fun β _ => by have h' : u = .string x := h; subst h'; exact .str x⟩
  | .list κ, l, u, j, h => list_ok nm j h
  | .agg _, _, u, j, _ => ⟨[], .nil w nm j, fun β _ => .top u⟩
  | .ptr _, _, u, j, _ => ⟨[], .nil w nm j, fun β _ => .top u⟩

theorem ext_left {β : Bt} {a b : List (Nat × Loc)} (h : Ext β (a ++ b)) : Ext β a := fun n l hn => h n l (List.mem_append_left _ hn)
theorem ext_right {β : Bt} {a b : List (Nat × Loc)} (h : Ext β (a ++ b)) : Ext β b := fun n l hn => h n l (List.mem_append_right _ hn)

theorem argCells_ok {w : World} (nm : Nat) : ∀ (d : List DS) (x : DS.dens d) (us : List Value) (j : Nat), DReps w d x us → ∃ ls, AOk w nm j (DS.argCells nm d x j).2.2 (DS.argCells nm d x j).2.1 ls ∧ ∀ β, Ext β ls → VReps β (DS.argCells nm d x j).1 us
  | [], x, us, j, h => ⟨[], .nil w nm j, fun β _ => by have h' : us = [] := h; subst h'; exact .nil⟩
  | [d], x, us, j, h => by
    obtain ⟨v, rfl, hv⟩ := h
    obtain ⟨ls, h1, h2⟩ := arg_ok nm d x v j hv
    exact ⟨ls, h1, fun β hβ => .one (h2 β hβ)⟩
  | d :: e :: r, x, us, j, h => by
    obtain ⟨v, s, rfl, hv, hs⟩ := h
    obtain ⟨ls, h1, h2⟩ := arg_ok nm d x.1 v j hv
    obtain ⟨ls', h3, h4⟩ := argCells_ok nm (e :: r) x.2 s _ hs
    exact ⟨ls ++ ls', h1.append h3, fun β hβ => .cons _ _ _ _ (h2 β (ext_left hβ)) (h4 β (ext_right hβ))⟩

def DS.noPtr : DS → Bool
  | .ptr _ => false
  | _ => true

theorem argTop_ok {w : World} (nm : Nat) (d : DS) (hp : d.noPtr = true) (x : d.den) (u : Value) (j : Nat) (h : DRep w d x u) : ∃ ls, AOk w nm j (DS.argTop nm d x j).2.2 (DS.argTop nm d x j).2.1 ls ∧ ∀ β, Ext β ls → VRep β (DS.argTop nm d x j).1 u := by
  cases d with
  | agg l =>
    obtain ⟨cs, rfl, hc⟩ := h
    obtain ⟨ls, h1, h2⟩ := argCells_ok nm l x cs.toList j hc
    exact ⟨ls, h1, fun β hβ => .agg _ _ (h2 β hβ)⟩
  | ptr _ => cases hp
  | bool => exact arg_ok nm .bool x u j h
  | int k => exact arg_ok nm (.int k) x u j h
  | flt k => exact arg_ok nm (.flt k) x u j h
  | cpx k => exact arg_ok nm (.cpx k) x u j h
  | str => exact arg_ok nm .str x u j h
  | list κ => exact arg_ok nm (.list κ) x u j h

theorem argAll_ok {w : World} (nm : Nat) : ∀ (d : List DS) (_ : d.all DS.noPtr = true) (x : DS.dens d) (us : List Value) (j : Nat), DReps w d x us → ∃ ls, AOk w nm j (DS.argAll nm d x j).2.2 (DS.argAll nm d x j).2.1 ls ∧ ∀ β, Ext β ls → VReps β (DS.argAll nm d x j).1 us
  | [], _, x, us, j, h => ⟨[], .nil w nm j, fun β _ => by have h' : us = [] := h; subst h'; exact .nil⟩
  | [d], hp, x, us, j, h => by
    obtain ⟨v, rfl, hv⟩ := h
    obtain ⟨ls, h1, h2⟩ := argTop_ok nm d (by simpa using hp) x v j hv
    exact ⟨ls, h1, fun β hβ => .one (h2 β hβ)⟩
  | d :: e :: r, hp, x, us, j, h => by
    rw [List.all_cons, Bool.and_eq_true] at hp
    obtain ⟨v, s, rfl, hv, hs⟩ := h
    obtain ⟨ls, h1, h2⟩ := argTop_ok nm d hp.1 x.1 v j hv
    obtain ⟨ls', h3, h4⟩ := argAll_ok nm (e :: r) hp.2 x.2 s _ hs
    exact ⟨ls ++ ls', h1.append h3, fun β hβ => .cons _ _ _ _ (h2 β (ext_left hβ)) (h4 β (ext_right hβ))⟩

theorem lget_mem {ls : List (Nat × Loc)} {n : Nat} {l : Loc} (hm : (n, l) ∈ ls) (hn : (ls.map (·.1)).Nodup) : lget ls n = some l := by
  induction ls with
  | nil => cases hm
  | cons p r ih =>
    obtain ⟨m, k⟩ := p
    unfold lget
    rw [List.map_cons, List.nodup_cons] at hn
    cases hb : Nat.beq m n with
    | true =>
      have := Nat.eq_of_beq_eq_true hb
      subst this
      rcases List.mem_cons.1 hm with h | h
      · cases h; rfl
      · exact absurd (List.mem_map.2 ⟨(m, l), h, rfl⟩) hn.1
    | false =>
      rcases List.mem_cons.1 hm with h | h
      · cases h; rw [Nat.beq_refl] at hb; cases hb
      · exact ih h hn.2

theorem lget_some {ls : List (Nat × Loc)} {n : Nat} {l : Loc} (h : lget ls n = some l) : n ∈ ls.map (·.1) := by
  induction ls with
  | nil => cases h
  | cons p r ih =>
    obtain ⟨m, k⟩ := p
    unfold lget at h
    cases hb : Nat.beq m n with
    | true => rw [Nat.eq_of_beq_eq_true hb]; exact List.mem_cons_self
    | false => rw [hb] at h; exact List.mem_cons_of_mem _ (ih h)

theorem hget_pair {h : Heap} {n : Nat} {b : Blk} (hn : hget h n = some b) : (n, b) ∈ h := by
  induction h with
  | nil => cases hn
  | cons p r ih =>
    obtain ⟨m, c⟩ := p
    by_cases e : m = n
    · subst e; rw [hget_cons_self] at hn; cases hn; exact List.mem_cons_self
    · rw [hget_cons_ne _ _ e] at hn; exact List.mem_cons_of_mem _ (ih hn)

theorem hget_of_mem {h : Heap} {n : Nat} (hn : n ∈ h.map (·.1)) : ∃ b, hget h n = some b := by
  induction h with
  | nil => cases hn
  | cons p r ih =>
    obtain ⟨m, c⟩ := p
    by_cases e : m = n
    · subst e; exact ⟨c, hget_cons_self _ _ _⟩
    · rw [List.map_cons, List.mem_cons] at hn
      rcases hn with h | h
      · exact absurd h.symm e
      · obtain ⟨b, hb⟩ := ih h
        exact ⟨b, by rw [hget_cons_ne _ _ e]; exact hb⟩

theorem AOk.rep {w : World} {nm j j' : Nat} {h : Heap} {ls : List (Nat × Loc)} (a : AOk w nm j j' h ls) : Rep (lget ls) h w w.heap.size ∧ Ext (lget ls) ls := by
  have hnd : (ls.map (·.1)).Nodup := by rw [a.names]; exact a.nodup
  have hblk : ∀ n b l, hget h n = some b → lget ls n = some l → b.own = false ∧ BRep (lget ls) w w.heap.size l b := by
    intro n b l hn hl
    obtain ⟨l0, h1, h2, h3⟩ := a.blk n b (hget_pair hn)
    rw [lget_mem h1 hnd] at hl; cases hl
    exact ⟨h2, h3 _⟩
  refine ⟨⟨fun n hn => ?_, fun n b hn => ?_, fun n b l hn _ hl => (hblk n b l hn hl).2, fun n m b b' l l' _ hn _ _ _ hl _ ho => ?_⟩, fun n l hm => lget_mem hm hnd⟩
  · cases hl : lget ls n with
    | none => rfl
    | some l =>
      obtain ⟨b, hb⟩ := hget_of_mem (a.names ▸ lget_some hl)
      rw [hb] at hn; cases hn
  · obtain ⟨l0, h1, _⟩ := a.blk n b (hget_pair hn)
    exact ⟨l0, lget_mem h1 hnd⟩
  · obtain ⟨h1, h2⟩ := hblk n b l hn hl
    rw [h2.own, h1] at ho; cases ho

/-! ### Results -/
def blOf (β : Bt) (n : Nat) : Option Nat :=
  match β n with
  | some l => if l.size = 0 then none else some l.blk
  | none => none

section
variable {β : Bt} {h : Heap} {w : World} {base : Nat}

theorem ownOf_one {v : AV} {ns : List Nat} (ho : ownOf h [v] = some ns) : (∃ n o m κ l, v = .slc n o m ∧ hget h n = some (.arr true κ l) ∧ ns = [n]) ∨ (ns = [] ∧ ∀ n o m, v ≠ .slc n o m) := by
  cases v <;> simp only [ownOf] at ho <;> try (cases ho)
  case slc n o m =>
    split at ho
    · rename_i κ l hg
      simp only [Option.map_some, Option.some.injEq] at ho
      exact .inl ⟨n, o, m, κ, l, rfl, hg, ho.symm⟩
    · cases ho
  all_goals exact .inr ⟨rfl, fun _ _ _ e => by cases e⟩

theorem ownOf_cons {v : AV} {r : List AV} {ns : List Nat} (ho : ownOf h (v :: r) = some ns) : ∃ n1 n2, ownOf h [v] = some n1 ∧ ownOf h r = some n2 ∧ ns = n1 ++ n2 := by
  cases v <;> simp only [ownOf] at ho ⊢ <;> try (cases ho)
  case slc n o m =>
    split at ho
    · rename_i κ l hg
      cases hr : ownOf h r with
      | none => rw [hr] at ho; cases ho
      | some n2 =>
        rw [hr] at ho
        simp only [Option.map_some, Option.some.injEq] at ho
        exact ⟨[n], n2, rfl, rfl, by rw [← ho]; rfl⟩
    · cases ho
  all_goals exact ⟨[], ns, rfl, ho, rfl⟩

theorem outC (hr : Rep β h w base) : ∀ (d : DS) (v : AV) (x : d.den) (u : Value) (ns : List Nat), d.read h v = some x → VRep β v u → ownOf h [v] = some ns → ∃ bl, DOutC w base d x u bl ∧ bl.Sublist (ns.filterMap (blOf β)) := by
  intro d v x u ns hread hv ho
  have base0 := read_rep (Sub.refl' h) hr d v x u hread hv
  cases d with
  | bool => exact ⟨[], ⟨base0, rfl⟩, List.nil_sublist _⟩
  | int k => exact ⟨[], ⟨base0, rfl⟩, List.nil_sublist _⟩
  | flt k => exact ⟨[], ⟨base0, rfl⟩, List.nil_sublist _⟩
  | cpx k => exact ⟨[], ⟨base0, rfl⟩, List.nil_sublist _⟩
  | str => exact ⟨[], ⟨base0, rfl⟩, List.nil_sublist _⟩
  | agg l => cases v <;> simp only [DS.read] at hread <;> first | (cases hread; done) | (simp only [ownOf] at ho; cases ho)
  | ptr d => cases v <;> simp only [DS.read] at hread <;> first | (cases hread; done) | (simp only [ownOf] at ho; cases ho)
  | list κ =>
    rcases ownOf_one ho with ⟨n, o, m, κ', l, rfl, hg, rfl⟩ | ⟨rfl, hno⟩
    · simp only [DS.read, hg] at hread
      split at hread
      · rename_i e
        subst e
        cases hread
        cases hv with
        | slc _ _ _ loc a cap hl hok =>
        have hB := hr.blk n _ loc hg trivial hl
        have hown : loc.own = true := hB.own
        have hes : loc.es = κ'.size := hB.es
        have hlen : loc.len = l.length := hB.len
        obtain ⟨h1, h2⟩ := hok
        have hsub : (sub l o m).length = m := sub_length l (by omega)
        have hp := κ'.size_pos
        rcases h2 with ⟨rfl, h3⟩ | ⟨rfl, h3, h4⟩
        · have := h3 hown
          subst this
          exact ⟨[], ⟨a, 0, by rw [show (Eq.refl κ' ▸ sub l o 0 : List κ'.den) = sub l o 0 from rfl, hsub], .inl ⟨List.eq_nil_of_length_eq_zero hsub, rfl, rfl⟩⟩, List.nil_sublist _⟩
        · have h4 := h4 hown
          rw [hes] at h4
          by_cases hz : loc.size = 0
          · have hcap : cap = 0 := by
              rcases Nat.eq_zero_or_pos cap with h | h
              · exact h
              · have : 1 * 1 ≤ (o + cap) * κ'.size := Nat.mul_le_mul (by omega) hp
                omega
            subst hcap
            have hm0 : m = 0 := by omega
            subst hm0
            exact ⟨[], ⟨_, 0, by rw [show (Eq.refl κ' ▸ sub l o 0 : List κ'.den) = sub l o 0 from rfl, hsub], .inl ⟨List.eq_nil_of_length_eq_zero hsub, rfl, rfl⟩⟩, List.nil_sublist _⟩
          · obtain ⟨g1, g2, g3⟩ := hB.mine rfl (by omega)
            refine ⟨[loc.blk], ⟨_, cap, by rw [show (Eq.refl κ' ▸ sub l o m : List κ'.den) = sub l o m from rfl, hsub], .inr ⟨loc.blk, loc.off + o * κ'.size, loc.size, by rw [hes], by rw [show (Eq.refl κ' ▸ sub l o m : List κ'.den) = sub l o m from rfl, hsub]; exact h3, by rw [Nat.add_mul] at h4; omega, g1, g2, g3, fun j y hj => ?_, rfl⟩⟩, ?_⟩
            · have hj' : ((sub l o m).flatMap κ'.cells)[j]? = some y := hj
              have hj0 := hj'
              rw [sub_flat, List.getElem?_take] at hj'
              split at hj'
              · rw [List.getElem?_drop] at hj'
                obtain ⟨u, hu, hvv⟩ := hB.cells (o * κ'.size + j) y hj'
                exact ⟨u, by rw [Nat.add_assoc]; exact hu, ek_flat hj0 hvv⟩
              · cases hj'
            · have : blOf β n = some loc.blk := by unfold blOf; rw [hl]; simp [hz]
              rw [List.filterMap_cons, this]; exact List.Sublist.refl _
      · cases hread
    · cases v <;> simp only [DS.read] at hread <;> try (cases hread; done)
      case slc n o m => exact absurd rfl (hno n o m)
      case nils κ' =>
        cases hread
        cases hv with
        | nils _ a => exact ⟨[], ⟨a, 0, rfl, .inl ⟨rfl, rfl, rfl⟩⟩, List.nil_sublist _⟩

theorem outCs (hr : Rep β h w base) : ∀ (d : List DS) (vs : List AV) (x : DS.dens d) (us : List Value) (ns : List Nat), DS.reads h d vs = some x → VReps β vs us → ownOf h vs = some ns → ∃ bl, DOutCs w base d x us bl ∧ bl.Sublist (ns.filterMap (blOf β))
  | [], [], x, us, ns, _, hv, _ => by cases hv; exact ⟨[], ⟨rfl, rfl⟩, List.nil_sublist _⟩
  | [], _ :: _, x, us, ns, h, _, _ => by simp [DS.reads] at h
  | [d], [], x, us, ns, h, _, _ => by simp [DS.reads] at h
  | [d], [v], x, us, ns, h, hv, ho => by
    cases hv with
    | cons _ u _ s h1 h2 =>
    cases h2
    obtain ⟨bl, h3, h4⟩ := outC hr d v x u ns h h1 ho
    exact ⟨bl, ⟨u, rfl, h3⟩, h4⟩
  | [d], _ :: _ :: _, x, us, ns, h, _, _ => by simp [DS.reads] at h
  | d :: e :: r, [], x, us, ns, h, _, _ => by simp [DS.reads] at h
  | d :: e :: r, v :: vs, x, us, ns, h, hv, ho => by
    simp only [DS.reads] at h
    cases h1 : d.read _ v with
    | none => rw [h1] at h; cases h
    | some y =>
    cases h2 : DS.reads _ (e :: r) vs with
    | none => rw [h1, h2] at h; cases h
    | some z =>
    rw [h1, h2] at h; cases h
    cases hv with
    | cons _ u _ s k1 k2 =>
    obtain ⟨n1, n2, o1, o2, rfl⟩ := ownOf_cons ho
    obtain ⟨b1, g1, g2⟩ := outC hr d v y u n1 h1 k1 o1
    obtain ⟨b2, g3, g4⟩ := outCs hr (e :: r) vs z s n2 h2 k2 o2
    exact ⟨b1 ++ b2, ⟨u, s, b1, b2, rfl, rfl, g1, g3⟩, by rw [List.filterMap_append]; exact g2.append g4⟩

theorem ownOf_append : ∀ {a b : List AV} {ns : List Nat}, ownOf h (a ++ b) = some ns → ∃ n1 n2, ownOf h a = some n1 ∧ ownOf h b = some n2 ∧ ns = n1 ++ n2
  | [], b, ns, ho => ⟨[], ns, rfl, ho, rfl⟩
  | v :: r, b, ns, ho => by
    obtain ⟨n1, n2, h1, h2, rfl⟩ := ownOf_cons (r := r ++ b) ho
    obtain ⟨n3, n4, h3, h4, rfl⟩ := ownOf_append h2
    refine ⟨n1 ++ n3, n4, ?_, h4, by simp⟩
    rcases ownOf_one h1 with ⟨n, o, m, κ, l, rfl, hg, rfl⟩ | ⟨rfl, hno⟩
    · simp [ownOf, hg, h3]
    · cases v <;> simp only [ownOf] at h1 ⊢ <;> first | (cases h1; done) | exact h3 | skip
      case slc n o m => exact absurd rfl (hno n o m)

theorem outD (hr : Rep β h w base) (d : DS) (v : AV) (x : d.den) (u : Value) (ns : List Nat) (hread : d.read h v = some x) (hv : VRep β v u) (ho : ownOf h (flatRes [v]) = some ns) : ∃ bl, DOut w base d x u bl ∧ bl.Sublist (ns.filterMap (blOf β)) := by
  have plain : (∀ l, v ≠ .agg l) → ownOf h [v] = some ns := by
    intro hne
    have : flatRes [v] = [v] := by cases v <;> first | rfl | exact absurd rfl (hne _)
    rw [← this]; exact ho
  cases d with
  | agg l =>
    cases v <;> simp only [DS.read] at hread <;> try (cases hread; done)
    rename_i vs
    cases hv with
    | agg _ cs hcs =>
    have : flatRes [.agg vs] = vs := by simp [flatRes]
    rw [this] at ho
    obtain ⟨bl, h1, h2⟩ := outCs hr l vs x cs.toList ns hread hcs ho
    exact ⟨bl, ⟨cs, rfl, h1⟩, h2⟩
  | ptr d =>
    cases v <;> simp only [DS.read] at hread <;> try (cases hread; done)
    have := plain (fun _ e => by cases e)
    simp only [ownOf] at this; cases this
  | bool => exact outC hr .bool v x u ns hread hv (plain fun l e => by subst e; simp [DS.read] at hread)
  | int k => exact outC hr (.int k) v x u ns hread hv (plain fun l e => by subst e; simp [DS.read] at hread)
  | flt k => exact outC hr (.flt k) v x u ns hread hv (plain fun l e => by subst e; simp [DS.read] at hread)
  | cpx k => exact outC hr (.cpx k) v x u ns hread hv (plain fun l e => by subst e; simp [DS.read] at hread)
  | str => exact outC hr .str v x u ns hread hv (plain fun l e => by subst e; simp [DS.read] at hread)
  | list κ => exact outC hr (.list κ) v x u ns hread hv (plain fun l e => by subst e; simp [DS.read] at hread)

theorem flatRes_cons (v : AV) (r : List AV) : flatRes (v :: r) = flatRes [v] ++ flatRes r := by
  cases v <;> simp [flatRes]

theorem outT (hr : Rep β h w base) : ∀ (d : List DS) (vs : List AV) (x : DS.dens d) (us : List Value) (ns : List Nat), DS.reads h d vs = some x → VReps β vs us → ownOf h (flatRes vs) = some ns → ∃ bl, DOutT w base d x us bl ∧ bl.Sublist (ns.filterMap (blOf β))
  | [], [], x, us, ns, _, hv, _ => by cases hv; exact ⟨[], ⟨rfl, rfl⟩, List.nil_sublist _⟩
  | [], _ :: _, x, us, ns, h, _, _ => by simp [DS.reads] at h
  | [d], [], x, us, ns, h, _, _ => by simp [DS.reads] at h
  | [d], [v], x, us, ns, h, hv, ho => by
    cases hv with
    | cons _ u _ s h1 h2 =>
    cases h2
    obtain ⟨bl, h3, h4⟩ := outD hr d v x u ns h h1 ho
    exact ⟨bl, ⟨u, rfl, h3⟩, h4⟩
  | [d], _ :: _ :: _, x, us, ns, h, _, _ => by simp [DS.reads] at h
  | d :: e :: r, [], x, us, ns, h, _, _ => by simp [DS.reads] at h
  | d :: e :: r, v :: vs, x, us, ns, h, hv, ho => by
    simp only [DS.reads] at h
    cases h1 : d.read _ v with
    | none => rw [h1] at h; cases h
    | some y =>
    cases h2 : DS.reads _ (e :: r) vs with
    | none => rw [h1, h2] at h; cases h
    | some z =>
    rw [h1, h2] at h; cases h
    cases hv with
    | cons _ u _ s k1 k2 =>
    rw [flatRes_cons] at ho
    obtain ⟨n1, n2, o1, o2, rfl⟩ := ownOf_append ho
    obtain ⟨b1, g1, g2⟩ := outD hr d v y u n1 h1 k1 o1
    obtain ⟨b2, g3, g4⟩ := outT hr (e :: r) vs z s n2 h2 k2 o2
    exact ⟨b1 ++ b2, ⟨u, s, b1, b2, rfl, rfl, g1, g3⟩, by rw [List.filterMap_append]; exact g2.append g4⟩

theorem nodupB_spec : ∀ (l : List Nat), nodupB l = true → l.Nodup
  | [], _ => List.nodup_nil
  | x :: r, h => by
    unfold nodupB at h
    simp only [Bool.and_eq_true, Bool.not_eq_true'] at h
    refine List.nodup_cons.2 ⟨fun hm => ?_, nodupB_spec r h.2⟩
    have := List.any_eq_false.1 h.1 x hm
    rw [Nat.beq_refl] at this; exact this rfl

/-- all names there are own -/
theorem ownOf_own : ∀ {vs : List AV} {ns : List Nat}, ownOf h vs = some ns → ∀ n ∈ ns, ∃ κ l, hget h n = some (.arr true κ l)
  | [], ns, ho, n, hn => by cases ho; cases hn
  | v :: r, ns, ho, n, hn => by
    obtain ⟨n1, n2, h1, h2, rfl⟩ := ownOf_cons ho
    rcases List.mem_append.1 hn with hn | hn
    · rcases ownOf_one h1 with ⟨m, _, _, κ, l, rfl, hg, rfl⟩ | ⟨rfl, _⟩
      · rw [List.mem_singleton] at hn; subst hn; exact ⟨κ, l, hg⟩
      · cases hn
    · exact ownOf_own h2 n hn

theorem bl_nodup (hr : Rep β h w base) : ∀ (ns : List Nat), ns.Nodup → (∀ n ∈ ns, ∃ κ l, hget h n = some (.arr true κ l)) → (ns.filterMap (blOf β)).Nodup
  | [], _, _ => List.nodup_nil
  | n :: r, hnd, ho => by
    rw [List.nodup_cons] at hnd
    have ih := bl_nodup hr r hnd.2 fun m hm => ho m (List.mem_cons_of_mem _ hm)
    rw [List.filterMap_cons]
    cases hb : blOf β n with
    | none => exact ih
    | some b =>
      refine List.nodup_cons.2 ⟨fun hm => ?_, ih⟩
      obtain ⟨m, hm, hbm⟩ := List.mem_filterMap.1 hm
      have get : ∀ k b, blOf β k = some b → ∃ l, β k = some l ∧ 0 < l.size ∧ l.blk = b := by
        intro k b hk
        unfold blOf at hk
        cases hl : β k with
        | none => rw [hl] at hk; cases hk
        | some l =>
          rw [hl] at hk
          dsimp only at hk
          split at hk
          · cases hk
          · cases hk; exact ⟨l, rfl, by omega, rfl⟩
      obtain ⟨l1, h1, h2, h3⟩ := get n b hb
      obtain ⟨l2, h4, h5, h6⟩ := get m b hbm
      obtain ⟨κ1, e1, g1⟩ := ho n List.mem_cons_self
      obtain ⟨κ2, e2, g2⟩ := ho m (List.mem_cons_of_mem _ hm)
      have hne : n ≠ m := fun e => by subst e; exact hnd.1 hm
      have b1 := hr.blk n _ l1 g1 trivial h1
      have b2 := hr.blk m _ l2 g2 trivial h4
      exact hr.sep n m _ _ l1 l2 hne g1 g2 trivial trivial h1 h4 b1.own b2.own h2 h5 (by rw [h3, h6])
end

/-- THE FUNCTION IS TOLD RIGHTLY. -/
theorem fnF_ok {P : Program} {Γ : Ctx} (hΓ : CtxOk P Γ) (hF : FnsOk Γ) (d f : Nat) (args res : List DS) (hp : args.all DS.noPtr = true) : SpecOk' P f (fnF Γ d f args res) := by
  intro x r hx w vs hv
  have hx' : (fnT Γ d f args res x).den = some r := hx
  unfold fnT at hx'
  obtain ⟨⟨v, h'⟩, h1, h2⟩ := den_bind_some hx'
  obtain ⟨ls, hA, hvs⟩ := argAll_ok 2 args hp x vs.toList 0 hv
  obtain ⟨hr, hext⟩ := hA.rep
  have hcall := evBody_sound hΓ hF (evCall_sound hΓ hF d) (lget ls) w w.heap.size _ f _ vs 1 (v, h') hr (Nat.le_refl _) (hvs _ hext) h1
  refine hcall.mono fun u w' ⟨β', _, hr', hvu, hbel⟩ => ⟨hbel, ?_⟩
  unfold resOut at h2
  dsimp only at h2
  split at h2
  · rename_i ns hns
    generalize hnb : nodupB ns = nb at h2
    cases nb with
    | false => exact (den_fail h2).elim
    | true =>
    have hreads := den_opt h2
    have go : ∀ (l : List AV) (us : List Value), DS.reads h' res l = some r → ownOf h' (flatRes l) = some ns → VReps β' l us → ((∃ v, us = [v] ∧ u = v) ∨ ((∀ v, us ≠ [v]) ∧ u = .tuple us.toArray)) → ∃ bl : List Nat, bl.Nodup ∧ DOutV w' w.heap.size res r u bl := by
      intro l us k1 k2 k3 k4
      obtain ⟨bl, g1, g2⟩ := outT hr' res l r us ns k1 k3 k2
      exact ⟨bl, List.Sublist.nodup g2 (bl_nodup hr' ns (nodupB_spec ns hnb) (ownOf_own k2)), us, g1, k4⟩
    have single : DS.reads h' res [v] = some r → ownOf h' (flatRes [v]) = some ns → ∃ bl : List Nat, bl.Nodup ∧ DOutV w' w.heap.size res r u bl :=
      fun k1 k2 => go [v] [u] k1 k2 (.one hvu) (.inl ⟨u, rfl, rfl⟩)
    have many : (∀ d, res ≠ [d]) → ∀ l, DS.reads h' res l = some r → ∀ us : List Value, VReps β' l us → ∀ v, us ≠ [v] := by
      intro hne l hrd us hus v e
      subst e
      have hl := hus.length
      match res, l with
      | [], [] => cases hl
      | [], _ :: _ => simp [DS.reads] at hrd
      | [d], _ => exact hne d rfl
      | d :: e :: t, [] => cases hl
      | d :: e :: t, [x] =>
        simp only [DS.reads] at hrd
        cases h1 : d.read h' x with
        | none => rw [h1] at hrd; cases hrd
        | some y => rw [h1] at hrd; cases hrd
      | d :: e :: t, _ :: _ :: _ => simp at hl
    match res, r, hns, hreads, go, single, many with
    | [d], r, hns, hreads, go, single, many => exact single hreads hns
    | [], r, hns, hreads, go, single, many =>
      cases v with
      | tup l =>
        cases hvu with
        | tup _ cs hcs => exact go l cs.toList hreads hns hcs (.inr ⟨many (fun d e => by cases e) l hreads _ hcs, by simp⟩)
      | _ => exact absurd rfl (many (fun d e => by cases e) [_] hreads [u] (.one hvu) u)
    | d :: e :: t, r, hns, hreads, go, single, many =>
      cases v with
      | tup l =>
        cases hvu with
        | tup _ cs hcs => exact go l cs.toList hreads hns hcs (.inr ⟨many (fun d e => by cases e) l hreads _ hcs, by simp⟩)
      | _ => exact absurd rfl (many (fun d e => by cases e) [_] hreads [u] (.one hvu) u)
  · exact (den_fail h2).elim
end Go.Ab
