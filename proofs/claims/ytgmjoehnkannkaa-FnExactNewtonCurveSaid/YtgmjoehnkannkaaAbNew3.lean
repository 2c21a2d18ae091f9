/-
  Operations that turn no memory that was there. Part 9: new variables, new slices, builtins.
-/
import Derived.Test.YtgmjoehnkannkaaAbNew2
namespace Go.Ab
open Go.RowKit

/-- the cells of a value that a variable is made of -/
inductive VCells (β : Bt) : AV → List Value → Prop
  | agg (l : List AV) (us : List Value) : VReps β l us → VCells β (.agg l) us
  | arv (κ : EK) (l : List κ.den) (us : List Value) : VReps β (l.flatMap κ.cells) us → VCells β (.arv κ l) us
  | one (v : AV) (u : Value) : (∀ l, v ≠ .agg l) → (∀ κ l, v ≠ .arv κ l) → VRep β v u → VCells β v [u]

theorem VRep.cells {β : Bt} {v : AV} {u : Value} (h : VRep β v u) (ht : v ≠ .top) (ht' : ∀ l, v ≠ .tup l) : VCells β v u.cells.toList := by
  cases h with
  | top => exact absurd rfl ht
  | tup l => exact absurd rfl (ht' l)
  | agg l cs h => exact .agg _ _ h
  | arv κ l cs h => exact .arv _ _ _ h
  | bl b => exact .one _ _ (fun _ h => by cases h) (fun _ _ h => by cases h) (.bl b)
  | bs b => exact .one _ _ (fun _ h => by cases h) (fun _ _ h => by cases h) (.bs b)
  | int k n => exact .one _ _ (fun _ h => by cases h) (fun _ _ h => by cases h) (.int k n)
  | flt k x b h => exact .one _ _ (fun _ h => by cases h) (fun _ _ h => by cases h) (.flt k x b h)
  | cpx k x y a b h h' => exact .one _ _ (fun _ h => by cases h) (fun _ _ h => by cases h) (.cpx k x y a b h h')
  | str s => exact .one _ _ (fun _ h => by cases h) (fun _ _ h => by cases h) (.str s)
  | nilp => exact .one _ _ (fun _ h => by cases h) (fun _ _ h => by cases h) .nilp
  | ptr n i c l h h1 h2 => exact .one _ _ (fun _ h => by cases h) (fun _ _ h => by cases h) (.ptr n i c l h h1 h2)
  | slc n o m l a cap h h1 => exact .one _ _ (fun _ h => by cases h) (fun _ _ h => by cases h) (.slc n o m l a cap h h1)
  | nils κ a => exact .one _ _ (fun _ h => by cases h) (fun _ _ h => by cases h) (.nils κ a)
  | fn f a b a' b' h h' => exact .one _ _ (fun _ h => by cases h) (fun _ _ h => by cases h) (.fn f a b a' b' h h')

section
variable {P : Program} {Γ : Ctx} {β : Bt} {w : World}

theorem isPh_nil : isPh [] := fun n b h => by simp [hget] at h

/-- The names of new blocks are new. -/
def FreshIn (β : Bt) (d : Heap) : Prop := (∀ n b, hget d n = some b → β n = none) ∧ ∀ n b d', d = (n, b) :: d' → hget d' n = none

theorem le_extB {d : Heap} {nm : Nat} {l : Loc} (h : ∀ n, n = nm ∨ (∃ c, hget d n = some c) → β n = none) : β.le (extB β d nm l) := by
  intro n l' hn
  unfold extB
  by_cases e : n = nm
  · rw [h n (.inl e)] at hn; cases hn
  · rw [if_neg e]
    cases hg : hget d n with
    | none => exact hn
    | some c => rw [h n (.inr ⟨c, hg⟩)] at hn; cases hn

theorem FreshIn.names {nm : Nat} {b : Blk} {d : Heap} (h : FreshIn β ((nm, b) :: d)) : ∀ n, n = nm ∨ (∃ c, hget d n = some c) → β n = none := by
  rintro n (rfl | ⟨c, hc⟩)
  · exact h.1 _ _ (hget_cons_self _ _ _)
  · by_cases e : nm = n
    · subst e; exact h.1 _ _ (hget_cons_self _ _ _)
    · exact h.1 n c (by rw [hget_cons_ne _ _ e]; exact hc)

theorem ptr_new {d : Heap} {nm : Nat} {l : Loc} (h1 : 0 < l.len) (h2 : 0 < l.es) (h3 : l.off = 0) : VRep (extB β d nm l) (.ptr nm 0 0) (.pointer (some ⟨l.blk, 0, none⟩)) := by
  have := VRep.ptr (β := extB β d nm l) nm 0 0 l (by unfold extB; rw [if_pos rfl]) h1 h2
  simpa [h3] using this

theorem newVarA_post (nm : Nat) (ti : TyI) (v : AV) (us : Array Value) (e : Nat) (hv : VCells β v us.toList) (r : AV × Heap) (he : (newVarA Γ nm ti v).den = some r) (hf : FreshIn β r.2) :
    AddPost β w r.1 r.2 (.pointer (some ⟨w.heap.size, 0, none⟩)) { w with heap := w.heap.push (.cells us e) } := by
  -- a row of elements
  have rowCase : ∀ (κ : EK) (l : List κ.den), 0 < l.length → r = (.ptr nm 0 0, [(nm, .arr true κ l)]) → VReps β (l.flatMap κ.cells) us.toList →
      AddPost β w r.1 r.2 (.pointer (some ⟨w.heap.size, 0, none⟩)) { w with heap := w.heap.push (.cells us e) } := by
    intro κ l hl hr hus
    subst hr
    have hn := hf.names
    refine newRow_post nm (.arr true κ l) [] us e isPh_nil rfl hn trivial rfl _ _ (fun loc _ _ => hus.mono (le_extB hn)) ?_
    exact ptr_new hl κ.size_pos rfl
  have valsCase : ∀ (cs : List AV), VReps β cs us.toList → cs.length ≠ 0 → r = (.ptr nm 0 0, (nm, .vals true (phant (nm * 1024 + 900) 0 cs).1) :: (phant (nm * 1024 + 900) 0 cs).2) →
      AddPost β w r.1 r.2 (.pointer (some ⟨w.heap.size, 0, none⟩)) { w with heap := w.heap.push (.cells us e) } := by
    intro cs hcs hlen hr
    subst hr
    obtain ⟨i1, _, i3, i4⟩ := phant_rep (nm * 1024 + 900) 0 cs _ _ rfl
    have hn := hf.names
    refine newRow_post nm (.vals true (phant (nm * 1024 + 900) 0 cs).1) _ us e i1 (hf.2 _ _ _ rfl) hn trivial rfl _ _ (fun loc _ _ => i4 _ _ _ hcs (le_extB hn) (fun n b hb => ?_)) ?_
    · unfold extB
      have : n ≠ nm := by rintro rfl; rw [hf.2 _ _ _ rfl] at hb; cases hb
      rw [if_neg this, hb]
    · refine ptr_new ?_ Nat.one_pos rfl
      show 0 < (phant (nm * 1024 + 900) 0 cs).1.length
      rw [i3]; omega
  unfold newVarA at he
  split at he
  · obtain ⟨h1, h2⟩ := den_ifb he
    generalize hul : us.toList = ul at hv
    cases hv with
    | arv _ _ _ hus => exact rowCase _ _ (of_decide_eq_true h1) (den_ret h2).symm (by rw [hul]; exact hus)
    | one v u _ h _ => exact absurd rfl (h _ _)
  · rename_i cs
    have hcs : VReps β cs us.toList := by
      generalize hul : us.toList = ul at hv ⊢
      cases hv with
      | agg l _ h => exact h
      | one v u h _ _ => exact absurd rfl (h _)
    split at he
    · split at he
      · rename_i κ hκ
        split at he
        · rename_i l hl
          split at he
          · exact (den_fail he).elim
          · rename_i hn0
            refine rowCase κ l ?_ (den_ret he).symm (chunks_rep κ _ _ _ _ hl hcs)
            rw [chunks_length κ _ _ _ hl]; omega
        · exact (den_fail he).elim
      · exact (den_fail he).elim
    · dsimp only at he
      split at he
      · exact (den_fail he).elim
      · rename_i hlen
        exact valsCase cs hcs hlen (den_ret he).symm
  · exact (den_fail he).elim
  · exact (den_fail he).elim
  · rename_i n1 n2 n3 n4
    split at he
    · exact (den_fail he).elim
    · have : VReps β [v] us.toList := by
        generalize hul : us.toList = ul at hv ⊢
        cases hv with
        | agg l _ h => exact absurd rfl (n2 _)
        | arv κ l _ h => exact absurd rfl (n1 _ _)
        | one v u _ _ h => exact VReps.one h
      exact valsCase [v] this (by simp) (den_ret he).symm

theorem repl_rep {z : List AV} {us : List Value} (hz : VReps β z us) : ∀ n : Nat, VReps β (repl z n) ((List.replicate n us).flatten)
  | 0 => .nil
  | n + 1 => by
    rw [List.replicate_succ, List.flatten_cons]
    exact hz.append (repl_rep hz n)

theorem flat_repl_get {α : Type} (l : List α) (h0 : 0 < l.length) : ∀ (n j : Nat), (List.replicate n l).flatten[j]? = if j < n * l.length then l[j % l.length]? else none
  | 0, j => by simp
  | n + 1, j => by
    rw [List.replicate_succ, List.flatten_cons, List.getElem?_append, Nat.succ_mul]
    by_cases h : j < l.length
    · rw [if_pos h, if_pos (by omega), Nat.mod_eq_of_lt h]
    · rw [if_neg h, flat_repl_get l h0 n]
      have h1 : (j - l.length) % l.length = j % l.length := (Nat.mod_eq_sub_mod (by omega)).symm
      by_cases h2 : j - l.length < n * l.length
      · rw [if_pos h2, if_pos (by omega), h1]
      · rw [if_neg h2, if_neg (by omega)]

/-- the zero cells of n elements, as the model lays them -/
theorem zeros_eq (z : Array Value) (s n : Nat) (hs : z.size = s) (h0 : 0 < s) :
    ((Array.range (n * s)).map fun i => z[i % z.size]!).toList = (List.replicate n z.toList).flatten := by
  subst hs
  apply List.ext_getElem?
  intro j
  rw [flat_repl_get _ (by simpa using h0)]
  simp only [Array.toList_map, Array.toList_range, List.getElem?_map, Array.length_toList]
  by_cases h : j < n * z.size
  · have hm := Nat.mod_lt j h0
    rw [List.getElem?_range h, if_pos h]
    simp [hm]
  · rw [if_neg h, List.getElem?_eq_none (by simpa using h)]; rfl

theorem buildSliceA_post (hΓ : TysOk P Γ) (nm t n : Nat) (ps : List (Nat × AV)) (qs : Array (Nat × Value)) (hlen : ps.length = qs.size)
    (hpq : ∀ (j : Nat) (p : Nat × AV) (q : Nat × Value), ps[j]? = some p → qs[j]? = some q → p.1 = q.1 ∧ VRep β p.2 q.2) (r : AV × Heap) (he : (buildSliceA Γ nm t n ps).den = some r) (hf : FreshIn β r.2) :
    ∃ u w', (Instr.buildSlice t n qs).run P w = .ok u w' ∧ AddPost β w r.1 r.2 u w' := by
  have hpq' : ∀ (j : Nat) (p : Nat × AV) (q : Nat × Value), ps[j]? = some p → qs.toList[j]? = some q → p.1 = q.1 ∧ VRep β p.2 q.2 := fun j p q h1 h2 => hpq j p q h1 (by simpa using h2)
  unfold buildSliceA at he
  split at he
  · rename_i e _ _ _ _ hti
    obtain ⟨d, hu, hd, _⟩ := (hΓ.ty _ _ hti).under
    obtain rfl := dok_slc hd
    split at he
    · rename_i te hte
      have hT := hΓ.ty _ _ hte
      obtain ⟨zv, hz1, hz2, hzs⟩ := hT.zero
      split at he
      · rename_i κ hκ
        split at he
        · rename_i hsz
          obtain ⟨hsz, hsm⟩ := hsz
          split at he
          · rename_i cs hcs
            split at he
            · rename_i l hl
              rw [← den_ret he] at hf ⊢
              have hp := κ.size_pos
              have hs0 : 0 < te.size := by omega
              have hz := repl_rep (hz2 β) n
              rw [← zeros_eq zv.cells te.size n hzs hs0] at hz
              obtain ⟨r', h1, h2⟩ := fill_rep (β := β) (fun i => some (i * te.size, te.size)) ps qs.toList _ _ cs (by simpa using hlen) hpq' hz hcs
              have h3 := chunks_rep κ _ _ _ _ hl h2
              have h4 := chunks_length κ _ _ _ hl
              have h5 : r'.size = n * κ.size := by have := h3.length; rw [flat_length, h4] at this; simpa using this.symm
              refine ⟨.slice (some ⟨w.heap.size, 0, none⟩) n n, { w with heap := w.heap.push (.cells r' e) }, ?_, ?_⟩
              · unfold Instr.buildSlice
                have hle : ¬ (n * te.size > 2 ^ 24) := by omega
                simp only [Sem.run_bind, hu, Result.andThen_ok, hT.sizeOf w, if_neg hle, Sem.run_pure]
                by_cases h0 : n * te.size = 0
                · rw [if_pos h0]
                  have h1' : Instr.fill (fun i => some (i * te.size, te.size)) ((Array.range (n * te.size)).map fun x => (#[] : Array Value)[x % (#[] : Array Value).size]!) qs.toList = some r' := by
                    rw [← h1, h0, show Array.range 0 = #[] by decide, Array.map_empty, Array.map_empty]
                  simp only [Sem.run_pure, Result.andThen_ok, h1', newRow, Sem.run_bind, run_newObj]
                · rw [if_neg h0]
                  simp only [Sem.run_bind, hz1, Result.andThen_ok, Sem.run_pure, h1, newRow, run_newObj]
              · have hn := hf.names
                refine newRow_post nm (.arr true κ l) [] r' e isPh_nil rfl hn trivial rfl _ _ (fun loc _ _ => h3.mono (le_extB hn)) ?_
                refine .slc nm 0 n ⟨w.heap.size, 0, r'.size, l.length, κ.size, true⟩ _ _ (by unfold extB; rw [if_pos rfl]; rfl) ⟨?_, .inr ⟨by simp, Nat.le_refl _, fun _ => ?_⟩⟩
                · show 0 + n ≤ l.length; omega
                · show 0 + (0 + n) * κ.size ≤ r'.size; rw [h5]; simp
            · exact (den_fail he).elim
          · exact (den_fail he).elim
        · exact (den_fail he).elim
      · exact (den_fail he).elim
    · exact (den_fail he).elim
  · exact (den_fail he).elim
theorem maxB_eq : (maxB : Int) = 140737488355328 := rfl

theorem makeSliceA_post (hΓ : TysOk P Γ) (nm t : Nat) (lo co : Operand) (a b : AV) (x y : Value) (hx : VRep β a x) (hy : VRep β b y) (hsame : ∀ i, lo = .tmp i → co = .tmp i → x = y)
    (r : AV × Heap) (he : (makeSliceA Γ nm t lo co a b).den = some r) (hf : FreshIn β r.2) :
    ∃ u w', (Instr.makeSlice t x y).run P w = .ok u w' ∧ AddPost β w r.1 r.2 u w' := by
  unfold makeSliceA at he
  split at he
  · rename_i e _ _ _ _ n c hti
    obtain ⟨d, hu, hd, _⟩ := (hΓ.ty _ _ hti).under
    obtain rfl := dok_slc hd
    cases hx; cases hy
    split at he
    · rename_i te hte
      have hT := hΓ.ty _ _ hte
      obtain ⟨zv, hz1, hz2, hzs⟩ := hT.zero
      obtain ⟨info, hi1, hi2, hi3⟩ := hT.info
      split at he
      · rename_i κ hκ
        split at he
        · rename_i hsz
          split at he
          · rename_i z hz
            have hsz' := hsz
            obtain ⟨hsz, _⟩ := hsz
            have hp := κ.size_pos
            have hs0 : 0 < te.size := by omega
            -- the whole, once the bounds are known
            have fin : 0 ≤ n → n ≤ c → (te.bytes : Int) * c ≤ maxB → c < 2 ^ 62 → r = (.slc nm 0 n.toNat, [(nm, .arr true κ (List.replicate c.toNat z))]) →
                ∃ u w', (Instr.makeSlice t (.int .i64 n) (.int .i64 c)).run P w = .ok u w' ∧ AddPost β w r.1 r.2 u w' := by
              intro h0 h1 h2 h3 hr
              subst hr
              have hz' : VReps β ((List.replicate c.toNat z).flatMap κ.cells) ((Array.range (c.toNat * te.size)).map fun x => zv.cells[x % zv.cells.size]!).toList := by
                rw [zeros_eq zv.cells te.size _ hzs hs0]
                have h4 := EK.of_rep κ _ _ _ hz (hz2 β)
                have : ∀ m : Nat, VReps β ((List.replicate m z).flatMap κ.cells) (List.replicate m zv.cells.toList).flatten := by
                  intro m
                  induction m with
                  | zero => exact .nil
                  | succ m ih => rw [List.replicate_succ, List.flatMap_cons, List.replicate_succ, List.flatten_cons]; exact h4.append ih
                exact this _
              have hsize : ((Array.range (c.toNat * te.size)).map fun x => zv.cells[x % zv.cells.size]!).size = c.toNat * κ.size := by simp [hsz]
              refine ⟨.slice (some ⟨w.heap.size, 0, none⟩) n.toNat c.toNat, { w with heap := w.heap.push (.cells ((Array.range (c.toNat * te.size)).map fun x => zv.cells[x % zv.cells.size]!) e) }, ?_, ?_⟩
              · have hw1 : IntKind.i64.wrap n = n := by simp only [IntKind.wrap, IntKind.bits, IntKind.signed]; simp; omega
                have hw2 : IntKind.i64.wrap c = c := by simp only [IntKind.wrap, IntKind.bits, IntKind.signed]; simp; omega
                unfold Instr.makeSlice
                have hb : info.bytes = te.bytes := hi2
                have g1 : ¬ (c < 0) := by omega
                have g2 : ¬ ((te.bytes : Int) * c > 2 ^ 48) := by rw [maxB_eq] at h2; omega
                have g3 : ¬ (n < 0) := by omega
                have g4 : ¬ (n > c) := by omega
                simp only [Sem.run_bind, hu, Result.andThen_ok, asInt, asIntOf, Sem.run_pure, hi1, hw1, hw2, hb]
                simp only [g1, g2, g3, g4, decide_false, Bool.or_self, Bool.false_eq_true, if_false, Sem.run_pure, Result.andThen_ok, run_askRoom, hT.sizeOf w, Sem.run_bind]
                by_cases h5 : c.toNat * te.size = 0
                · rw [if_pos h5]
                  have : ((Array.range (c.toNat * te.size)).map fun x => zv.cells[x % zv.cells.size]!) = ((Array.range (c.toNat * te.size)).map fun x => (#[] : Array Value)[x % (#[] : Array Value).size]!) := by rw [h5, show Array.range 0 = #[] by decide, Array.map_empty, Array.map_empty]
                  rw [this]
                  simp only [Sem.run_pure, Result.andThen_ok, newRow, Sem.run_bind, run_newObj]
                · rw [if_neg h5]
                  simp only [Sem.run_bind, hz1, Result.andThen_ok, Sem.run_pure, newRow, run_newObj]
              · have hn := hf.names
                refine newRow_post nm (.arr true κ (List.replicate c.toNat z)) [] _ e isPh_nil rfl hn trivial rfl _ _ (fun loc _ _ => hz'.mono (le_extB hn)) ?_
                refine .slc nm 0 n.toNat ⟨w.heap.size, 0, _, (List.replicate c.toNat z).length, κ.size, true⟩ _ _ (by unfold extB; rw [if_pos rfl]; rfl) ⟨?_, .inr ⟨by simp, by omega, fun _ => ?_⟩⟩
                · show 0 + n.toNat ≤ (List.replicate c.toNat z).length; rw [List.length_replicate]; omega
                · show 0 + (0 + c.toNat) * κ.size ≤ _; rw [hsize]; simp
            dsimp only at he
            have big : ∀ m : Int, 0 ≤ m → (te.bytes : Int) * m ≤ maxB → te.bytes ≠ 0 → m < 2 ^ 62 := by
              intro m hm h hb
              rw [maxB_eq] at h
              have : (1 : Int) * m ≤ (te.bytes : Int) * m := Int.mul_le_mul_of_nonneg_right (by omega) hm
              omega
            have two : ((T.ifb (decide (0 ≤ n) && decide (n ≤ c) && decide ((te.bytes : Int) * c ≤ maxB)) (.ret (.slc nm 0 n.toNat, [(nm, .arr true κ (List.replicate c.toNat z))]))) : T (AV × Heap)).den = some r →
                ∃ u w', (Instr.makeSlice t (.int .i64 n) (.int .i64 c)).run P w = .ok u w' ∧ AddPost β w r.1 r.2 u w' := by
              intro he
              obtain ⟨h1, h2⟩ := den_ifb he
              simp only [Bool.and_eq_true, decide_eq_true_eq] at h1
              exact fin h1.1.1 h1.1.2 h1.2 (big c (by omega) h1.2 hsz'.2) (den_ret h2).symm
            split at he
            · rename_i i j
              split at he
              · rename_i hsm
                have hnc : n = c := by
                  have := Nat.eq_of_beq_eq_true hsm
                  subst this
                  have := hsame i rfl rfl
                  simpa using this
                subst hnc
                obtain ⟨h1, h2⟩ := den_ifb he
                simp only [Bool.and_eq_true, decide_eq_true_eq] at h1
                exact fin h1.1 (Int.le_refl _) h1.2 (big n h1.1 h1.2 hsz'.2) (den_ret h2).symm
              · exact two he
            · split at he
              · rename_i hsm; cases hsm
              · exact two he
          · exact (den_fail he).elim
        · exact (den_fail he).elim
      · exact (den_fail he).elim
    · exact (den_fail he).elim
  · exact (den_fail he).elim
end
end Go.Ab
