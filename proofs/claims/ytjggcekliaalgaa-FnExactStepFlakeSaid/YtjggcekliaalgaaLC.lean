/-
  Appends to nothing: a new block alone.
-/
import Derived.Test.YtjggcekliaalgaaLB
import Derived.Laws.Append
import Derived.Laws.IdiomCopy
namespace Go.Ab
open Go.RowKit

variable {P : Program} {Γ : Ctx}

def dNotInt : TypeDesc → Bool
  | .int _ => false
  | _ => true

theorem append_in {ts : Array Nat} {ty st xt e : Nat} {d : TypeDesc} (h0 : ts[0]? = some st) (h1 : ts[1]? = some xt) (hu : P.underlying st = some (.slice e)) (hx : P.underlying xt = some d) (hd : dNotInt d = true)
    {sz sLen sCap n c : Nat} {b a : Option Addr} {news : Array Value} {w w' : World} (hsz : (sizeOf e).run P w = .ok sz w) (hneed : sLen + n ≤ sCap) (hf : (Builtin.firstCells sz n (.slice a n c)).run P w = .ok news w)
    (hst : ∀ p, b = some p → (storeCells (p.add (sLen * sz)) news.toList).run P w = .ok () w') (hno : b = none → w' = w) :
    (Builtin.append_ ts ty #[.slice b sLen sCap, .slice a n c]).run P w = .ok (.slice b (sLen + n) sCap) w' := by
  have hne : ∀ k, d = .int k → False := fun k e => by subst e; exact absurd hd Bool.false_ne_true
  cases b with
  | none =>
    obtain rfl := hno rfl
    simp [Builtin.append_, h0, h1, run_underlying hu, run_underlying hx, hsz, Builtin.lenOf, hneed, hf]
  | some p =>
    have := hst p rfl
    simp [Builtin.append_, h0, h1, run_underlying hu, run_underlying hx, hsz, Builtin.lenOf, hneed, hf, this]

theorem append_out {ts : Array Nat} {ty st xt e : Nat} {d : TypeDesc} {i : TypeInfo} {z : Value} (h0 : ts[0]? = some st) (h1 : ts[1]? = some xt) (hu : P.underlying st = some (.slice e)) (hx : P.underlying xt = some d) (hd : dNotInt d = true)
    (hi : P.info? e = some i) (hzv : i.zero = some z)
    {sLen sCap n c : Nat} {b a : Option Addr} {olds news : Array Value} {w : World} (hneed : ¬ sLen + n ≤ sCap) (hm : sLen + n ≤ 2 ^ 36) (hby : i.bytes ≤ 64)
    (hf : (Builtin.firstCells i.size n (.slice a n c)).run P w.drew = .ok news w.drew) (hfo : (Builtin.firstCells i.size sLen (.slice b sLen sCap)).run P w.drew = .ok olds w.drew) :
    ∃ k, (Builtin.append_ ts ty #[.slice b sLen sCap, .slice a n c]).run P w = .ok (.slice (some ⟨w.heap.size, 0, none⟩) (sLen + n) (sLen + n + k)) (w.drew.alloc (.cells (olds ++ news ++ Builtin.zeroCells z.cells k) e)) := by
  refine ⟨grownCap w (sLen + n) sCap e - (sLen + n), ?_⟩
  have hge := grownCap_ge w (sLen + n) sCap e
  have h63' : ¬ (((sLen + n : Nat) : Int) > IntKind.i64.max) := by simp [IntKind.max, IntKind.bits, IntKind.signed]; omega
  have h48' : ¬ (Builtin.nextslicecap (sLen + n) sCap * i.bytes > 2 ^ 48) := by
    have := nextslicecap_le (need := sLen + n) (old := sCap) (by omega)
    have h2 : Builtin.nextslicecap (sLen + n) sCap * i.bytes ≤ 2 * (2 ^ 36) * 64 := Nat.mul_le_mul (by omega) hby
    omega
  have h63'' : ¬ (9223372036854775807 < (sLen : Int) + (n : Int)) := by omega
  have h48'' : ¬ (281474976710656 < Builtin.nextslicecap (sLen + n) sCap * i.bytes) := by omega
  have hc : sLen + n + (grownCap w (sLen + n) sCap e - (sLen + n)) = grownCap w (sLen + n) sCap e := by omega
  rw [hc]
  have hne : ∀ k, d = .int k → False := fun k e => by subst e; exact absurd hd Bool.false_ne_true
  simp [Builtin.append_, h0, h1, run_underlying hu, run_underlying hx, sizeOf, typeInfo, zeroValue, hi, hzv, Builtin.lenOf, hneed, h63'', h48'', Question.forced, hf, hfo, newRow, grownCap]

theorem EK.cells_cellB : ∀ (κ : EK) (x : κ.den), (κ.cells x).all cellB = true
  | .bool, _ | .int _, _ | .flt _, _ | .cpx _, _ | .str, _ => rfl
  | .pair a b, x => by
    show ((a.cells x.1) ++ (b.cells x.2)).all cellB = true
    rw [List.all_append, EK.cells_cellB a, EK.cells_cellB b]; rfl

theorem flat_cellB (κ : EK) (l : List κ.den) : (l.flatMap κ.cells).all cellB = true := by
  rw [List.all_flatMap]
  exact List.all_eq_true.2 fun x _ => EK.cells_cellB κ x

/-- A slice's elements, read in any world that keeps the cells. -/
theorem elems_run {β : Bt} {h : Heap} {w : World} {base : Nat} (hr : Rep β h w base) {n off len : Nat} {o : Bool} {κ : EK} {l : List κ.den} (hn : hget h n = some (.arr o κ l)) {v : Value} (hv : VRep β (.slc n off len) v) :
    ∃ a cap us, v = .slice a len cap ∧ (sub l off len).length = len ∧ VReps β ((sub l off len).flatMap κ.cells) us ∧
      ∀ w' : World, (∀ p x, w.cell? p = some x → w'.cell? p = some x) → (Builtin.firstCells κ.size len v).run P w' = .ok us.toArray w' := by
  obtain ⟨a, cap, hv', hlen, hc⟩ := slc_cells hr hn hv
  subst hv'
  rcases hc with h0 | ⟨blk, o, ha, hc⟩
  · subst h0
    have hl : sub l off 0 = [] := List.eq_nil_of_length_eq_zero hlen
    refine ⟨a, cap, [], rfl, hlen, by rw [hl]; exact .nil, fun w' _ => ?_⟩
    cases a with
    | none => exact run_firstCells_none w' _ _ _ _
    | some p => exact run_firstCells_some w' κ.size 0 p 0 cap [] (by simp) (fun j v h => by simp at h)
  · subst ha
    obtain ⟨us, h1, h2, h3⟩ := VReps.of_cells (fun j => w.cell? ⟨blk, o + j, none⟩) _ hc
    refine ⟨_, cap, us, rfl, hlen, h3, fun w' hw => ?_⟩
    exact run_firstCells_some w' κ.size len ⟨blk, o, none⟩ len cap us (by rw [h2, flat_length, hlen]) (fun j v hj => by rw [addr_add]; exact hw _ _ (h1 j v hj))

theorem new_run {β : Bt} {h : Heap} {w : World} {base : Nat} (hr : Rep β h w base) {κ : EK} {x : AV} {X : Value} {new : List κ.den}
    (hnew : newOf κ h x = some new) (hX : VRep β x X) :
    ∃ a c us, X = .slice a new.length c ∧ VReps β (new.flatMap κ.cells) us ∧ ∀ w' : World, (∀ p v, w.cell? p = some v → w'.cell? p = some v) → (Builtin.firstCells κ.size new.length X).run P w' = .ok us.toArray w' := by
  unfold newOf at hnew
  split at hnew
  · cases hnew
    cases hX with
    | nils _ a =>
    refine ⟨a, 0, [], rfl, .nil, fun w' _ => ?_⟩
    cases a with
    | none => exact run_firstCells_none w' _ _ _ _
    | some p => exact run_firstCells_some w' κ.size 0 p 0 0 [] (by simp) (fun j v h => by simp at h)
  · rename_i m off len
    split at hnew
    · rename_i o κ' l hm
      split at hnew
      · rename_i e
        subst e
        cases hnew
        obtain ⟨a, cap, us, h1, h2, h3, h4⟩ := elems_run (P := P) hr hm hX
        have h2' : (Eq.refl κ' ▸ sub l off len : List κ'.den).length = len := h2
        rw [h2']
        exact ⟨a, cap, us, h1, h3, h4⟩
      · cases hnew
    · cases hnew
  · cases hnew

theorem dNot {t : TyI} {d : TypeDesc} (h : DOk t.d d) (hn : t.notInt = true) : dNotInt d = true := by
  unfold TyI.notInt at hn
  cases d with
  | int k =>
    cases ht : t.d <;> rw [ht] at h hn <;> first | exact h.elim | cases hn
  | _ => rfl

/-- The in-place place of an appended row. -/
theorem brep_own {β : Bt} {w : World} {base : Nat} {κ : EK} {l : List κ.den} {us : List Value} {loc : Loc} (ho : loc.own = true) (hlen : loc.len = l.length) (hes : loc.es = κ.size) (hus : VReps β (l.flatMap κ.cells) us)
    (hc : ∀ (j : Nat) u, us[j]? = some u → w.cell? ⟨loc.blk, loc.off + j, none⟩ = some u) (hm : OwnAt w base loc) (hroom : loc.off + loc.len * loc.es ≤ loc.size) : BRep β w base loc (.arr true κ l) :=
  ⟨ho, hlen, hes, fun j v hj => let ⟨u, h1, h2⟩ := hus.get j hj; ⟨u, hc j u h1, h2⟩, fun _ => hm, fun _ => hroom, fun h => by cases h⟩

theorem one_new {β : Bt} {w w' : World} {nm : Nat} {b : Blk} {l' : Loc} {v : AV} {u : Value} (hβ : β nm = none) (hbel : Below w.heap.size w w') (hlive : b.live) (ho : b.own = true) (hB : BRep (extB β [] nm l') w' w.heap.size l' b) (hv : VRep (extB β [] nm l') v u) :
    AddPost β w v [(nm, b)] u w' := by
  have hg : ∀ n c, hget [(nm, b)] n = some c → n = nm ∧ c = b := by
    intro n c h
    by_cases e : nm = n
    · subst e; rw [hget_cons_self] at h; cases h; exact ⟨rfl, rfl⟩
    · rw [hget_cons_ne _ _ e] at h; cases h
  have hN : extB β [] nm l' nm = some l' := by unfold extB; rw [if_pos rfl]
  refine ⟨extB β [] nm l', ?_, hbel, hv, fun n hn => ?_, ⟨fun n c h => ?_, fun n m c c' l l' hne h1 h2 => ?_⟩⟩
  · intro m lm h
    unfold extB
    by_cases e : m = nm
    · subst e; rw [hβ] at h; cases h
    · rw [if_neg e]; exact h
  · have : n ≠ nm := fun e => by subst e; rw [hget_cons_self] at hn; cases hn
    unfold extB; rw [if_neg this]; rfl
  · obtain ⟨rfl, rfl⟩ := hg n c h
    exact ⟨hlive, ho, l', hN, hB⟩
  · obtain ⟨rfl, rfl⟩ := hg n c h1
    obtain ⟨rfl, rfl⟩ := hg m c' h2
    exact absurd rfl hne

theorem below_drew (w : World) (k : Nat) : Below k w w.drew := ⟨rfl, rfl, rfl, Nat.le_refl _, fun _ _ => rfl⟩

/-- a new row with room behind it -/
theorem grown_brep {β' : Bt} {w : World} {base : Nat} {κ : EK} {L : List κ.den} {us rest : List Value} {e : Nat} (hbase : base ≤ w.heap.size) (hus : VReps β' (L.flatMap κ.cells) us) :
    BRep β' (w.drew.alloc (.cells (us.toArray ++ rest.toArray) e)) base ⟨w.heap.size, 0, us.length + rest.length, L.length, κ.size, true⟩ (.arr true κ L) := by
  have hul : us.length = L.length * κ.size := by rw [← hus.length, flat_length]
  have hcell : ∀ o, (w.drew.alloc (.cells (us.toArray ++ rest.toArray) e)).cell? ⟨w.heap.size, o, none⟩ = (us.toArray ++ rest.toArray)[o]? := fun o => cell_new w.drew _ e o
  refine brep_own rfl rfl rfl hus (fun j u hj => ?_) (fun _ => ⟨hbase, ⟨us.toArray ++ rest.toArray, e, (0, 0), ?_, by simp⟩, fun o _ => frozen_new w.drew _ e o⟩) (by simp only; omega)
  · simp only [Nat.zero_add, hcell]
    obtain ⟨h1, _⟩ := List.getElem?_eq_some_iff.1 hj
    rw [Array.getElem?_append_left (by simpa using h1)]
    simpa using hj
  · exact heap_alloc_new w.drew _

theorem below_alloc (w : World) (o : Obj) : Below w.heap.size w (w.drew.alloc o) := (below_drew w _).trans (below_push w.drew o)

theorem newOf_sub {g h : Heap} (hs : Sub g h) {κ : EK} {x : AV} {new : List κ.den} (hn : newOf κ g x = some new) : newOf κ h x = some new := by
  unfold newOf at hn ⊢
  split at hn
  · exact hn
  · rename_i m off len
    split at hn
    · rename_i o κ' l hm
      rw [hs _ _ hm]
      exact hn
    · cases hn
  · cases hn

theorem appendN_post {β : Bt} {g h : Heap} {w : World} {base : Nat} (hΓ : TysOk P Γ) (hs : Sub g h) (hr : Rep β h w base) (nm ty : Nat) (ts : Array Nat) (x : AV) (k0 : Option EK) (S X : Value) (hS : VRep β (.nils k0) S) (hX : VRep β x X)
    (r : AV × Heap) (he : (appendN Γ g nm ts.toList x).den = some r) (hf : FreshIn β r.2) : ∃ u w', (Builtin.append_ ts ty #[S, X]).run P w = .ok u w' ∧ AddPost β w r.1 r.2 u w' := by
  unfold appendN at he
  split at he
  · rename_i st xt more hts
    have h0 : ts[0]? = some st := by rw [← Array.getElem?_toList, hts]; rfl
    have h1 : ts[1]? = some xt := by rw [← Array.getElem?_toList, hts]; rfl
    split at he
    · rename_i e _ _ _ _ hst
      obtain ⟨d, _, hd, hu⟩ := (hΓ.ty _ _ hst).under
      obtain rfl := dok_slc hd
      split at he
      · rename_i te tx hte htx
        obtain ⟨dx, _, hdx, hux⟩ := (hΓ.ty _ _ htx).under
        obtain ⟨info, hi, hisz, hiby, z, hz, hzs, hzr⟩ := (hΓ.ty _ _ hte).ex
        have hsizeOf := (hΓ.ty _ _ hte).sizeOf w
        split at he
        · rename_i κ hκ
          split at he
          · rename_i hc
            obtain ⟨hc1, hc2, hc3, hc4⟩ := hc
            have hnot := dNot hdx hc4
            split at he
            · exact (den_fail he).elim
            · rename_i new hnew
              obtain ⟨a, c, us, rfl, hus, hrun⟩ := new_run (P := P) hr (newOf_sub hs hnew) hX
              have hul : us.length = new.length * κ.size := by rw [← hus.length, flat_length]
              have kept : ∀ p v, w.cell? p = some v → w.drew.cell? p = some v := fun p v h => h
              have hz36 : maxA = 2 ^ 36 := rfl
              rw [hc1] at hsizeOf
              have hisz' : info.size = κ.size := by rw [hisz, hc1]
              cases hS with
              | nils _ a0 =>
              obtain ⟨hm, he⟩ := den_ifb he
              simp only [decide_eq_true_eq] at hm
              have := den_ret he
              subst this
              have hβ : β nm = none := hf.names nm (.inl rfl)
              by_cases hz0 : new.length = 0
              · have hnew0 : new = [] := List.eq_nil_of_length_eq_zero hz0
                subst hnew0
                have hus0 : us = [] := List.eq_nil_of_length_eq_zero (by rw [hul]; simp)
                subst hus0
                refine ⟨_, w, append_in (P := P) h0 h1 hu hux hnot hsizeOf (by simp) (hrun w fun _ _ h => h) (fun p _ => rfl) (fun _ => rfl), ?_⟩
                refine (one_new (l' := ⟨0, 0, 0, 0, κ.size, true⟩) hβ (Below.refl _ _) trivial rfl ?_ ?_)
                · exact brep_own rfl rfl rfl (us := []) .nil (fun j u h => by simp at h) (fun h => absurd h (by simp)) (by simp)
                · exact .slc nm 0 0 ⟨0, 0, 0, 0, κ.size, true⟩ _ _ (by unfold extB; rw [if_pos rfl]) ⟨by simp, .inl ⟨rfl, fun _ => by simp⟩⟩
              · obtain ⟨k, hk⟩ := append_out (P := P) (ty := ty) (w := w) (olds := #[]) (b := a0) (sLen := 0) (sCap := 0) (n := new.length) h0 h1 hu hux hnot hi hz (by omega) (by omega) (by rw [hiby]; exact hc3) (by rw [hisz']; exact hrun _ kept) (by
                  cases a0 with
                  | none => exact run_firstCells_none w.drew _ _ _ _
                  | some p => exact run_firstCells_some w.drew info.size 0 p 0 0 [] (by simp) (fun j v h => by simp at h))
                rw [Nat.zero_add] at hk
                refine ⟨_, _, hk, ?_⟩
                have hex : (#[] ++ us.toArray ++ Builtin.zeroCells z.cells k) = us.toArray ++ (Builtin.zeroCells z.cells k).toList.toArray := by simp
                rw [hex]
                have hlen : (Builtin.zeroCells z.cells k).toList.length = k * κ.size := by rw [Array.length_toList, size_zeroCells, hzs, hc1]
                refine (one_new (l' := ⟨w.heap.size, 0, us.length + (Builtin.zeroCells z.cells k).toList.length, new.length, κ.size, true⟩) hβ (below_alloc w _) trivial rfl ?_ ?_)
                · exact grown_brep (Nat.le_refl _) (hus.mono (fun m lm h => by unfold extB; by_cases e : m = nm; (subst e; rw [hβ] at h; cases h); rw [if_neg e]; exact h))
                · refine .slc nm 0 new.length ⟨w.heap.size, 0, us.length + (Builtin.zeroCells z.cells k).toList.length, new.length, κ.size, true⟩ _ _ (by unfold extB; rw [if_pos rfl]) ⟨by simp, .inr ⟨by simp, by omega, fun _ => ?_⟩⟩
                  simp only [hlen, hul, Nat.zero_add]
                  rw [← Nat.add_mul]
                  exact Nat.le_refl _
          · exact (den_fail he).elim
        · exact (den_fail he).elim
      · exact (den_fail he).elim
    · exact (den_fail he).elim
  · exact (den_fail he).elim


theorem arvOf_rep {β : Bt} (t : Nat) {v : AV} {u : Value} (h : VRep β v u) : VRep β (arvOf Γ t v) u := by
  unfold arvOf
  split
  · split
    · split
      · split
        · rename_i l hl
          cases h with
          | agg _ cs hcs => exact .arv _ _ _ (chunks_rep _ _ _ _ _ hl hcs)
        · exact h
      · exact h
    · exact h
  · exact h
theorem indexA_run {β : Bt} {w : World} (hΓ : TysOk P Γ) (t : Nat) (p q : AV) (x y : Value) (hx : VRep β p x) (hy : VRep β q y) (v : AV) (he : (indexA Γ t p q).den = some v) :
    RunsTo P (Instr.index t x y) w (VRep β v) := indexA0_run hΓ t _ q x y (arvOf_rep t hx) hy v he
end Go.Ab

/-
  Every operation that turns no memory does what the evaluator tells.
-/
namespace Go.Ab
open Go.RowKit

structure CtxOk (P : Program) (Γ : Ctx) : Prop where
  tys : TysOk P Γ
  fns : ∀ f fn, Γ.fns f = some fn → P.funcs[f]? = some fn
  spec : ∀ f s, Γ.spec f = some s → SpecOk' P f s
  mixed : P.follows .mixedOrders = true

section
variable {P : Program} {Γ : Ctx} {β : Bt} {g h : Heap} {w : World} {base : Nat} {a : Act}

theorem opRes_runs {o : Oper} {s : Sem Value} {v : AV} (he : execOp a.eval o = (do pure (.value (← s)))) (hr : RunsTo P s w (VRep β v)) : OpRes P o a w (AddPost β w v []) := by
  obtain ⟨u, n, h1, h2⟩ := hr
  refine opRes_value (w' := { w with drawn := n }) (u := u) ?_ (.none (below_drawn _ _ _) h2)
  rw [he, Sem.run_bind, h1]; rfl

theorem opRes_post {o : Oper} {s : Sem Value} {r : AV × Heap} (he : execOp a.eval o = (do pure (.value (← s)))) (hr : ∃ u w', s.run P w = .ok u w' ∧ AddPost β w r.1 r.2 u w') : OpRes P o a w (AddPost β w r.1 r.2) := by
  obtain ⟨u, w', h1, h2⟩ := hr
  refine opRes_value (w' := w') (u := u) ?_ h2
  rw [he, Sem.run_bind, h1]; rfl

theorem opRes_val {o : Oper} {v : AV} {u : Value} (he : (execOp a.eval o).run P w = .ok (.value u) w) (hv : VRep β v u) : OpRes P o a w (AddPost β w v []) :=
  opRes_value he (.same hv)

theorem pure1_den {t : T AV} {r : AV × Heap} (h : (pure1 t).den = some r) : t.den = some r.1 ∧ r.2 = [] := by
  unfold pure1 at h
  obtain ⟨v, h1, h2⟩ := den_bind_some h
  have := den_ret h2
  subst this
  exact ⟨h1, rfl⟩

theorem orep {tm : List AV} (ht : VReps β tm a.tmps.toList) (x : Option Operand) (hx : x.all opndOk = true) : ORep β (x.map (opv tm)) (x.map a.eval) := by
  cases x with
  | none => exact .none
  | some x => exact .some _ _ (opv_rep ht x (by simpa using hx))

theorem opvs_rep {tm : List AV} (ht : VReps β tm a.tmps.toList) : ∀ (l : List Operand), l.all opndOk = true → VReps β (l.map (opv tm)) (l.map a.eval)
  | [], _ => .nil
  | x :: r, h => by
    simp only [List.all_cons, Bool.and_eq_true] at h
    exact .cons _ _ _ _ (opv_rep ht x h.1) (opvs_rep ht r h.2)

theorem parts_rep {tm : List AV} (ht : VReps β tm a.tmps.toList) (ps : Array (Nat × Operand)) (hp : (ps.toList.map (·.2)).all opndOk = true) :
    (ps.toList.map fun p => (p.1, opv tm p.2)).length = (ps.map fun (i, x) => (i, a.eval x)).size ∧
    ∀ (j : Nat) (p : Nat × AV) (q : Nat × Value), (ps.toList.map fun p => (p.1, opv tm p.2))[j]? = some p → (ps.map fun (i, x) => (i, a.eval x))[j]? = some q → p.1 = q.1 ∧ VRep β p.2 q.2 := by
  refine ⟨by simp, fun j p q h1 h2 => ?_⟩
  simp only [List.getElem?_map, Array.getElem?_map, Array.getElem?_toList] at h1 h2
  cases hj : ps[j]? with
  | none => rw [hj] at h1; cases h1
  | some x =>
    rw [hj] at h1 h2
    simp only [Option.map_some, Option.some.injEq] at h1 h2
    subst h1 h2
    refine ⟨rfl, opv_rep ht _ ?_⟩
    have hm : x ∈ ps.toList := by simpa using Array.mem_of_getElem? hj
    exact List.all_eq_true.1 hp x.2 (List.mem_map.2 ⟨x, hm, rfl⟩)

theorem nilsOf_post (t nm : Nat) {v : AV} {u : Value} (hv : VRep β v u) (r : AV × Heap) (hr : nilsOf Γ t nm v = r) (hf : FreshIn β r.2) : AddPost β w r.1 r.2 u w := by
  have ph : ∀ (κ : EK) (b : Option Addr), u = .slice b 0 0 → r = (.slc nm 0 0, [(nm, .arr true κ [])]) → AddPost β w r.1 r.2 u w := by
    intro κ b hu hr
    subst hu hr
    have hn := hf.names
    let β' : Bt := extB β [] nm (phLoc (.arr true κ []))
    refine ⟨β', le_extB hn, Below.refl _ _, .slc _ _ _ (phLoc (.arr true κ [])) _ _ (by show extB _ _ _ _ _ = _; unfold extB; rw [if_pos rfl]) ⟨Nat.le_refl _, .inl ⟨rfl, fun _ => rfl⟩⟩, fun n hn => ?_, ⟨fun n b' hn => ?_, fun n m b1 b2 l1 l2 hnm h1 h2 h3 h4 h5 h6 => ?_⟩⟩
    · show extB _ _ _ _ _ = _
      unfold extB
      by_cases e : n = nm
      · subst e; rw [hget_cons_self] at hn; cases hn
      · rw [if_neg e]; rfl
    · by_cases e : n = nm
      · subst e
        rw [hget_cons_self] at hn
        cases hn
        exact ⟨trivial, rfl, phLoc (.arr true κ []), by show extB _ _ _ _ _ = _; unfold extB; rw [if_pos rfl], ⟨rfl, rfl, rfl, fun j x hj => by simp [Blk.cl] at hj, fun _ h => by simp [phLoc] at h, fun _ => by simp [phLoc, Blk.len], fun h => by cases h⟩⟩
      · rw [hget_cons_ne _ _ (Ne.symm e)] at hn; simp [hget] at hn
    · have : n = nm := by
        by_cases e : n = nm
        · exact e
        · rw [hget_cons_ne _ _ (Ne.symm e)] at h1; simp [hget] at h1
      have : m = nm := by
        by_cases e : m = nm
        · exact e
        · rw [hget_cons_ne _ _ (Ne.symm e)] at h2; simp [hget] at h2
      omega
  unfold nilsOf at hr
  split at hr
  · cases hv with
    | nils _ b =>
    split at hr
    · split at hr
      · exact ph _ b rfl hr.symm
      · subst hr; exact .same (.nils _ _)
    · subst hr; exact .same (.nils _ _)
  · cases hv with
    | nils _ b => exact ph _ b rfl hr.symm
  · subst hr; exact .same hv

theorem phantAgg_post (nm : Nat) (v : AV) (u : Value) (n : Nat) (hv : VRep β v u) (r : AV × Heap) (hr : phantAgg nm v = r) (hf : ∀ n b, hget r.2 n = some b → β n = none) : AddPost β w r.1 r.2 u { w with drawn := n } := by
  unfold phantAgg at hr
  split at hr
  · rename_i l
    cases hv with
    | agg _ cs hcs =>
    generalize hq : phant (nm * 1024 + 900) 0 l = q at hr
    obtain ⟨l', d⟩ := q
    dsimp only at hr
    subst hr
    obtain ⟨i1, _, _, i4⟩ := phant_rep (nm * 1024 + 900) 0 l l' d hq
    let β' : Bt := fun n => match hget d n with | some b => some (phLoc b) | none => β n
    have hd : ∀ n b, hget d n = some b → β' n = some (phLoc b) := fun n b hb => by
      show (match hget d n with | some b => some (phLoc b) | none => β n) = _
      rw [hb]
    have hn : ∀ n, hget d n = none → β' n = β n := fun n hb => by
      show (match hget d n with | some b => some (phLoc b) | none => β n) = _
      rw [hb]
    have hle : β.le β' := by
      intro n l0 h
      cases hg : hget d n with
      | none => rw [hn n hg]; exact h
      | some b => have := hf n b hg; rw [this] at h; cases h
    refine ⟨β', hle, below_drawn _ _ _, .agg _ _ (i4 β β' cs.toList hcs hle hd), hn, ⟨fun n b hb => ?_, fun n m b b' l1 l2 _ h1 h2 h3 h4 h5 => ?_⟩⟩
    · have hb' := hd n b hb
      obtain ⟨κ, rfl⟩ := i1 n b hb
      exact ⟨trivial, rfl, phLoc (.arr true κ []), hb', ⟨rfl, rfl, rfl, fun j x hj => by simp [Blk.cl] at hj, fun _ h => by simp [phLoc] at h, fun _ => by simp [phLoc, Blk.len], fun h => by cases h⟩⟩
    · rw [hd n b h1] at h3
      cases h3
      simp [phLoc] at h5
  · subst hr
    exact .none (below_drawn _ _ _) hv

theorem mergeV_rep {b : Bool} {x y : AV} {u v : Value} (hx : VRep β x u) (hy : VRep β y v) : VRep β (mergeV b x y) (if b then u else v) := by
  have hbif : ∀ (p q : Bool), (if b then Value.bool p else Value.bool q) = Value.bool (bif b then p else q) := by intro p q; cases b <;> rfl
  unfold mergeV
  split
  · cases hx; cases hy; rw [hbif]; exact .bs _
  · cases hx; cases hy; rw [hbif]; exact .bs _
  · cases hx; cases hy; rw [hbif]; exact .bs _
  · cases hx; cases hy; rw [hbif]; exact .bs _
  · cases hx; cases hy
    split
    · rename_i e; subst e
      cases b
      · exact .int _ _
      · exact .int _ _
    · exact .top _
  · cases hx with
    | flt _ _ _ h1 =>
    cases hy with
    | flt _ _ _ h2 =>
    split
    · rename_i e; subst e
      cases b
      · exact .flt _ _ _ h2
      · exact .flt _ _ _ h1
    · exact .top _
  · cases hx with
    | cpx _ _ _ _ _ h1 h1' =>
    cases hy with
    | cpx _ _ _ _ _ h2 h2' =>
    split
    · rename_i e; subst e
      cases b
      · exact .cpx _ _ _ _ _ h2 h2'
      · exact .cpx _ _ _ _ _ h1 h1'
    · exact .top _
  · cases hx; cases hy
    cases b
    · exact .str _
    · exact .str _
  · exact .top _

set_option maxHeartbeats 2000000 in
theorem evOpA_sound (hΓ : CtxOk P Γ) (hs : Sub g h) (hr : Rep β h w base) {tm : List AV} (ht : VReps β tm a.tmps.toList) (nm : Nat) (o : Oper) (ho : operOk o = true) (r : AV × Heap)
    (he : (evOpA Γ tm g nm o).den = some r) (hd : Dist r.2) (hβ : ∀ n b, hget r.2 n = some b → β n = none) : OpRes P o a w (AddPost β w r.1 r.2) := by
  have hf : FreshIn β r.2 := hd.fresh hβ
  obtain ⟨dst, op, type, pos, after, guard⟩ := o
  unfold operOk at ho
  cases op <;> simp only [evOpA, Op.operands] at he ho <;> first | exact (den_fail he).elim | skip
  case move x =>
    have := den_ret he
    exact opRes_value (u := a.eval x) rfl (nilsOf_post _ _ (opv_rep ht x (by simpa using ho)) r this hf)
  case assign x =>
    have := den_ret he
    exact opRes_value (u := a.eval x) rfl (nilsOf_post _ _ (opv_rep ht x (by simpa using ho)) r this hf)
  case pick c x y =>
    have ho' : opndOk c = true ∧ opndOk x = true ∧ opndOk y = true := by simpa using ho
    have hc := opv_rep ht c ho'.1
    have h1 := opv_rep ht x ho'.2.1
    have h2 := opv_rep ht y ho'.2.2
    have run : ∀ b, a.eval c = .bool b → (execOp a.eval ⟨dst, .pick c x y, type, pos, after, guard⟩).run P w = .ok (.value (if b then a.eval x else a.eval y)) w := by
      intro b hb
      simp [execOp, hb, asBool]
    generalize hcv : opv tm c = cv at he hc
    split at he
    · rw [← den_ret he]
      generalize hcu : a.eval c = cu at hc
      cases hc; exact opRes_val (run true hcu) h1
    · rw [← den_ret he]
      generalize hcu : a.eval c = cu at hc
      cases hc; exact opRes_val (run false hcu) h2
    · rw [← den_ret he]
      generalize hcu : a.eval c = cu at hc
      cases hc; exact opRes_val (run _ hcu) (mergeV_rep h1 h2)
    · exact (den_fail he).elim
  case alloc t =>
    split at he
    · rename_i ti hti
      obtain ⟨z, hz1, hz2, hz3⟩ := (hΓ.tys.ty _ _ hti).zero
      refine opRes_post (s := Instr.alloc t true (.tuple #[])) rfl ⟨.pointer (some ⟨w.heap.size, 0, none⟩), { w with heap := w.heap.push (.cells z.cells t) }, ?_, ?_⟩
      · simp [Instr.alloc, hz1, newVar, newRow]
      · refine newVarA_post (Γ := Γ) _ ti _ z.cells t ?_ r he hf
        cases ha : ti.isAgg with
        | true => exact .agg _ _ (hz2 β)
        | false =>
          simp only [ha, Bool.false_eq_true, if_false] at he ⊢
          split
          · rename_i z0 hz0
            have := hz2 β
            rw [hz0] at this he
            generalize hul : z.cells.toList = ul at this
            cases this with
            | cons _ u _ _ h1 h2 =>
            cases h2
            simp only at he
            split
            · rename_i hc
              refine .one _ _ (fun l e => ?_) (fun κ l e => ?_) h1
              · subst e; cases hc
              · subst e; cases hc
            · rename_i hc
              rw [if_neg hc] at he
              simp [newVarA, T.den] at he
          · rename_i hne
            exfalso
            split at he
            · rename_i z0 hz0; exact hne z0 hz0
            · simp [newVarA, T.den] at he
    · exact (den_fail he).elim
  case box t x =>
    split at he
    · rename_i ti hti
      have hx := opv_rep ht x (by simpa using ho)
      have hnt : opv tm x ≠ .top ∧ ∀ l, opv tm x ≠ .tup l := by
        constructor
        · intro e; rw [e] at he; simp [newVarA, T.den] at he
        · intro l e; rw [e] at he; simp [newVarA, T.den] at he
      refine opRes_post (s := Instr.box t (a.eval x)) rfl ⟨.pointer (some ⟨w.heap.size, 0, none⟩), { w with heap := w.heap.push (.cells (a.eval x).cells t) }, ?_, ?_⟩
      · simp [Instr.box, newVar, newRow]
      · exact newVarA_post (Γ := Γ) _ ti _ _ t (hx.cells hnt.1 hnt.2) r he hf
    · exact (den_fail he).elim
  case build t ps =>
    obtain ⟨v, h1, h2⟩ := den_bind_some he
    obtain ⟨h3, h4⟩ := parts_rep ht ps (by simpa using ho)
    obtain ⟨u, n, k1, k2⟩ := buildA_run (w := w) hΓ.tys t _ _ h3 h4 v h1
    exact opRes_post (s := Instr.build t (ps.map fun (i, x) => (i, a.eval x))) rfl ⟨u, _, k1, phantAgg_post _ v u n k2 r (den_ret h2) hβ⟩
  case buildSlice t n ps =>
    obtain ⟨h3, h4⟩ := parts_rep ht ps (by simpa using ho)
    exact opRes_post (s := Instr.buildSlice t n (ps.map fun (i, x) => (i, a.eval x))) rfl (buildSliceA_post hΓ.tys _ t n _ _ h3 h4 r he hf)
  case load t x =>
    obtain ⟨h1, h2⟩ := pure1_den he
    rw [h2]
    obtain ⟨ad, e, u, h3, h4⟩ := loadA_run (P := P) hΓ.tys hs hr t _ _ (opv_rep ht x (by simpa using ho)) r.1 h1
    refine opRes_runs (s := Instr.loadAt t (a.eval x)) rfl (RunsTo.of (u := u) ?_ h4)
    rw [e]; simp [Instr.loadAt, Instr.sureAddr, h3]
  case nilCheck x =>
    have hx := opv_rep ht x (by simpa using ho)
    generalize hv : opv tm x = v at he hx
    generalize hu : a.eval x = u at hx
    split at he
    · rw [← den_ret he]
      cases hx with
      | ptr n i c l h1 h2 h3 =>
      refine opRes_val (u := a.eval x) ?_ (by rw [hu]; exact .ptr _ _ _ _ h1 h2 h3)
      simp [execOp, hu]
    · rw [← den_ret he]
      cases hx with
      | fn f p q p' q' h1 h2 =>
      refine opRes_val (u := .func (.func _) p' q') ?_ (.fn _ _ _ _ _ h1 h2)
      simp [execOp, hu]
    · exact (den_fail he).elim
  case binOp op t x y yt =>
    obtain ⟨h1, h2⟩ := pure1_den he
    rw [h2]
    have ho' : opndOk x = true ∧ opndOk y = true := by simpa using ho
    have hx := opv_rep ht x ho'.1
    have hy := opv_rep ht y ho'.2
    have both : RunsTo P (binOp op t (a.eval x) (a.eval y)) w (VRep β r.1) ∧ (∀ xo yo' : Operand, (eqGuard op t xo yo' (a.eval x) (a.eval y)).run P w = .ok () w) := by
      cases hn : nilCmp Γ op t (opv tm x) y with
      | some τ =>
        rw [hn] at h1
        exact nilCmp_run (P := P) hΓ.tys op t _ y _ _ hx (fun hc => by
          cases y with
          | const v =>
            simp only [isNilConst] at hc
            split at hc
            · rename_i e; cases e; rfl
            · cases hc
          | _ => simp [isNilConst] at hc) τ hn r.1 w h1
      | none =>
        rw [hn] at h1
        exact binOpA_run (P := P) hΓ.tys op t _ _ y _ _ hx hy (fun z hz k n e => by
          cases y with
          | const v =>
            simp only [Act.eval] at e
            subst e
            simpa [isZeroConst] using hz.symm
          | _ => simp [isZeroConst] at hz) r.1 w h1
    obtain ⟨h3, h4⟩ := both
    refine opRes_runs (s := do eqGuard op t x y (a.eval x) (a.eval y); binOp op t (a.eval x) (a.eval y)) rfl ?_
    obtain ⟨u, n, h5, h6⟩ := h3
    exact ⟨u, n, by rw [Sem.run_bind, h4]; exact h5, h6⟩
  case unOp op t x =>
    obtain ⟨h1, h2⟩ := pure1_den he
    rw [h2]
    exact opRes_runs (s := Op.unary op (a.eval x)) rfl (unOpA_run op _ _ (opv_rep ht x (by simpa using ho)) r.1 w h1)
  case convert s d x =>
    obtain ⟨h1, h2⟩ := pure1_den he
    rw [h2]
    exact opRes_runs (s := convert s d (a.eval x)) rfl (convertA_run hΓ.tys hs hr s d _ _ (opv_rep ht x (by simpa using ho)) r.1 h1)
  case makeFunc f x y =>
    rw [← den_ret he]
    have ho' : x.toList.all opndOk = true ∧ y.toList.all opndOk = true := by simpa using ho
    refine opRes_val (u := .func f (x.map a.eval) (y.map a.eval)) (by simp [execOp, Instr.makeFunc]) (.fn _ _ _ _ _ ?_ ?_)
    · simpa using opvs_rep ht x.toList ho'.1
    · simpa using opvs_rep ht y.toList ho'.2
  case makeSlice t l c =>
    have ho' : opndOk l = true ∧ opndOk c = true := by simpa using ho
    exact opRes_post (s := Instr.makeSlice t (a.eval l) (a.eval c)) rfl (makeSliceA_post hΓ.tys _ t l c _ _ _ _ (opv_rep ht l ho'.1) (opv_rep ht c ho'.2) (fun i h1 h2 => by rw [h1, h2]) r he hf)
  case slice t x lo hi mx =>
    obtain ⟨h1, h2⟩ := pure1_den he
    rw [h2]
    have ho' : opndOk x = true ∧ lo.all opndOk = true ∧ hi.all opndOk = true ∧ mx.all opndOk = true := by
      have : opndOk x = true ∧ (∀ x : Operand, lo = some x → opndOk x = true) ∧ (∀ x : Operand, hi = some x → opndOk x = true) ∧ ∀ x : Operand, mx = some x → opndOk x = true := by
        simpa [List.all_append] using ho
      refine ⟨this.1, ?_, ?_, ?_⟩
      · cases lo with
        | none => rfl
        | some y => exact this.2.1 y rfl
      · cases hi with
        | none => rfl
        | some y => exact this.2.2.1 y rfl
      · cases mx with
        | none => rfl
        | some y => exact this.2.2.2 y rfl
    have hz : ∀ x : Option Operand, isZeroC x = true → ∃ k, x.map a.eval = some (.int k 0) := by
      intro x hx
      match x, hx with
      | some (.const (.int k n)), hx =>
        have : n = 0 := by simpa [isZeroC] using hx
        subst this
        exact ⟨k, rfl⟩
    exact opRes_runs (s := Instr.sliceAt t (a.eval x) (lo.map a.eval) (hi.map a.eval) (mx.map a.eval)) rfl
      (sliceA_run hΓ.tys hs hr t _ _ _ _ hi mx _ _ _ _ (opv_rep ht x ho'.1) (orep ht lo ho'.2.1) (orep ht hi ho'.2.2.1) (orep ht mx ho'.2.2.2) (hz hi) (hz mx) r.1 h1)
  case fieldAddr t x f =>
    obtain ⟨h1, h2⟩ := pure1_den he
    rw [h2]
    exact opRes_runs (s := Instr.fieldAt t (a.eval x) f) rfl (fieldAddrA_run hΓ.tys hs hr t _ f _ (opv_rep ht x (by simpa using ho)) r.1 h1)
  case field t x f =>
    obtain ⟨h1, h2⟩ := pure1_den he
    rw [h2]
    exact opRes_runs (s := Instr.field t (a.eval x) f) rfl (fieldA_run hΓ.tys t _ f _ (opv_rep ht x (by simpa using ho)) r.1 h1)
  case indexAddr t x i =>
    obtain ⟨h1, h2⟩ := pure1_den he
    rw [h2]
    have ho' : opndOk x = true ∧ opndOk i = true := by simpa using ho
    exact opRes_runs (s := Instr.indexAt t (a.eval x) (a.eval i)) rfl (indexAddrA_run hΓ.tys hs hr t _ _ _ _ (opv_rep ht x ho'.1) (opv_rep ht i ho'.2) r.1 h1)
  case index t x i =>
    obtain ⟨h1, h2⟩ := pure1_den he
    rw [h2]
    have ho' : opndOk x = true ∧ opndOk i = true := by simpa using ho
    exact opRes_runs (s := Instr.index t (a.eval x) (a.eval i)) rfl (indexA_run hΓ.tys t _ _ _ _ (opv_rep ht x ho'.1) (opv_rep ht i ho'.2) r.1 h1)
  case extract t i =>
    have hx := opv_rep ht t (by simpa using ho)
    generalize hv : opv tm t = v at he hx
    generalize hu : a.eval t = u at hx
    split at he
    · obtain ⟨h1, h2⟩ := pure1_den he
      rw [h2]
      cases hx with
      | tup _ cs hcs =>
      obtain ⟨u', h3, h4⟩ := hcs.get i (den_opt h1)
      have h5 : cs[i]? = some u' := by simpa using h3
      refine opRes_runs (s := Instr.extract (.tuple cs) i) (by simp [execOp, hu]) (RunsTo.of (u := u') ?_ h4)
      simp [Instr.extract, h5]
    · exact (den_fail he).elim
  case call c =>
    have hops : c.operands.toList.all opndOk = true := ho
    split at he
    · rename_i hb
      have hargs : c.args.toList.all opndOk = true := by simpa [Call.operands, hb] using hops
      split at he
      · rename_i k0 x hav
        have hall := opvs_rep ht c.args.toList hargs
        rw [hav] at hall
        cases hal : c.args.toList with
        | nil => rw [hal] at hav; cases hav
        | cons o1 r1 =>
        rw [hal] at hall
        cases hall with
        | cons _ S _ _ hS hall =>
        cases r1 with
        | nil => cases hall
        | cons o2 r2 =>
        cases hall with
        | cons _ X _ _ hX hall =>
        cases r2 with
        | cons _ _ => cases hall
        | nil =>
        obtain ⟨u, w', h3, h4⟩ := appendN_post (P := P) hΓ.tys hs hr (opName nm _) type c.argTypes x k0 _ _ hS hX r he hf
        have hex : c.args.map a.eval = #[a.eval o1, a.eval o2] := by
          apply Array.ext'
          simp [hal]
        refine opRes_value (u := u) (w' := w') ?_ h4
        simp only [execOp, resolve, hb, Sem.run_bind, Sem.run_pure, Result.andThen_ok, invoke, hex]
        unfold builtin
        simp only [Sem.run_bind, h3, Result.andThen_ok, Sem.run_pure]
      · exact (den_fail he).elim
    · rename_i b _ hb
      obtain ⟨h1, h2⟩ := pure1_den he
      rw [h2]
      have hargs : c.args.toList.all opndOk = true := by simpa [Call.operands, hb] using hops
      obtain ⟨u, h3, h4⟩ := builtinA_run (P := P) (w := w) hΓ.tys b c.argTypes type (c.args.map fun | .const _ => true | _ => false) _ (c.args.map a.eval) (by simpa using opvs_rep ht c.args.toList hargs) r.1 h1
      refine opRes_val (u := u) ?_ h4
      simp only [execOp, resolve, hb, Sem.run_bind, Sem.run_pure, Result.andThen_ok, invoke]
      exact h3
    · rename_i f hf'
      have hargs : c.args.toList.all opndOk = true ∧ opndOk f = true := by
        have : opndOk f = true ∧ c.args.toList.all opndOk = true := by simpa [Call.operands, hf'] using hops
        exact ⟨this.2, this.1⟩
      have hfv := opv_rep ht f hargs.2
      have hav := opvs_rep ht c.args.toList hargs.1
      generalize hfa : opv tm f = fa at he hfv
      generalize hfu : a.eval f = fu at hfv
      split at he
      · rename_i gf as has
        split at he
        · rename_i s hsp
          unfold callee at has
          split at has
          · cases has
            cases hfv with
            | fn _ p q p' q' h1 h2 =>
            have hall : ∀ pp qq, VReps β pp p'.toList → VReps β qq q'.toList → VReps β ((pp ++ c.args.toList.map (opv tm)) ++ qq) ((p' ++ c.args.map a.eval) ++ q').toList := by
              intro pp qq h1 h2
              simp only [Array.toList_append, Array.toList_map]
              exact (h1.append hav).append h2
            have hall := hall _ _ h1 h2
            have := useSpec_post (hΓ.spec _ _ hsp) hs hr _ _ hall _ r he hd hβ
            have hex : (execOp a.eval ⟨dst, .call c, type, pos, after, guard⟩).run P w = (callFunc gf ((p' ++ c.args.map a.eval) ++ q')).run P w := by
              simp [execOp, resolve, hf', hfu, Deferred.ofValue, invoke]
            unfold OpRes
            rw [hex]
            unfold CallOr at this
            generalize (callFunc gf ((p' ++ c.args.map a.eval) ++ q')).run P w = res at this ⊢
            cases res with
            | halt x w' => exact this.elim
            | ok n w' =>
              cases n
              case value u => exact this
              case enter f args => exact this
              all_goals exact this.elim
          · cases has
        · exact (den_fail he).elim
      · exact (den_fail he).elim
    · exact (den_fail he).elim
end
end Go.Ab

/-
  The operations that turn memory: stores and appends.
-/
namespace Go.Ab
open Go.RowKit

/-- Behind any operation. -/
def Post (β : Bt) (w : World) (base : Nat) (v : AV) (h' : Heap) (u : Value) (w' : World) : Prop :=
  ∃ β', β.le β' ∧ Rep β' h' w' base ∧ VRep β' v u ∧ Below base w w'

theorem hget_append (h d : Heap) (n : Nat) : hget (h ++ d) n = (hget h n).or (hget d n) := by
  induction h with
  | nil => rfl
  | cons p r ih =>
    obtain ⟨m, b⟩ := p
    simp only [List.cons_append, hget]
    cases Nat.beq m n
    · exact ih
    · rfl

theorem hget_hset_self (h : Heap) (n : Nat) (b : Blk) (c : Blk) (hn : hget h n = some c) : hget (hset h n b) n = some b := by
  induction h with
  | nil => cases hn
  | cons p r ih =>
    obtain ⟨m, b'⟩ := p
    unfold hset
    cases hb : Nat.beq m n with
    | true => simp only [cond_true, hget, hb]
    | false =>
      simp only [hget, hb, cond_false] at hn
      simp only [cond_false, hget, hb]
      exact ih hn

theorem hget_hset_ne (h : Heap) {n m : Nat} (b : Blk) (hne : n ≠ m) : hget (hset h n b) m = hget h m := by
  induction h with
  | nil => rfl
  | cons p r ih =>
    obtain ⟨k, b'⟩ := p
    unfold hset
    cases hb : Nat.beq k n with
    | true =>
      have := Nat.eq_of_beq_eq_true hb
      subst this
      simp only [cond_true]
      rw [hget_cons_ne _ _ hne, hget_cons_ne _ _ hne]
    | false =>
      simp only [cond_false, hget]
      rw [ih]

theorem BRep.below {β β' : Bt} {w w' : World} {base : Nat} {l : Loc} {b : Blk} (h : BRep β w base l b) (hβ : β.le β') (hc : ∀ j v, b.cl[j]? = some v → ∀ u, w.cell? ⟨l.blk, l.off + j, none⟩ = some u → w'.cell? ⟨l.blk, l.off + j, none⟩ = some u)
    (ho : b.own = true → 0 < l.size → w'.heap[l.blk]? = w.heap[l.blk]?) : BRep β' w' base l b := by
  refine ⟨h.own, h.len, h.es, fun j v hj => ?_, fun hb hs => ?_, h.room, h.other⟩
  · obtain ⟨u, hu, hv⟩ := h.cells j v hj
    exact ⟨u, hc j v hj u hu, hv.mono hβ⟩
  · obtain ⟨h1, h2, h3⟩ := h.mine hb hs
    refine ⟨h1, by rw [ho hb hs]; exact h2, fun o hlt => ?_⟩
    rw [World.frozen?_of_block (w := w) (ho hb hs)]; exact h3 o hlt

theorem BRep.base_le {β : Bt} {w : World} {base base' : Nat} {l : Loc} {b : Blk} (h : BRep β w base' l b) (hb : base ≤ base') (ho : b.own = true) : BRep β w base l b :=
  ⟨h.own, h.len, h.es, h.cells, fun ho' hs => let ⟨h1, h2⟩ := h.mine ho' hs; ⟨by omega, h2⟩, h.room, fun h' => by rw [ho] at h'; cases h'⟩

/-- An operation that turns nothing that was there. -/
theorem add_post {β : Bt} {h d : Heap} {w w' : World} {base : Nat} {v : AV} {u : Value} (hr : Rep β h w base) (hb : base ≤ w.heap.size) (hp : AddPost β w v d u w') : Post β w base v (h ++ d) u w' := by
  obtain ⟨β', hle, hbel, hv, hout, hnew⟩ := hp
  have hcell : ∀ {p : Addr} {x : Value}, w.cell? p = some x → w'.cell? p = some x := fun {p x} hx => by rw [hbel.cell (cell_lt hx)]; exact hx
  have oldNew : ∀ n b, hget (h ++ d) n = some b → hget h n = some b ∨ (hget h n = none ∧ hget d n = some b) := by
    intro n b hn
    rw [hget_append] at hn
    cases hg : hget h n with
    | some c => rw [hg] at hn; exact .inl hn
    | none => rw [hg] at hn; exact .inr ⟨rfl, hn⟩
  have same : ∀ n l l0, β n = some l0 → β' n = some l → l0 = l := fun n l l0 h1 h2 => by have := hle _ _ h1; rw [h2] at this; cases this; rfl
  have oldB : ∀ n b l, hget h n = some b → b.live → β' n = some l → BRep β w base l b ∧ BRep β' w' base l b ∧ β n = some l := by
    intro n b l hn hlive hl
    obtain ⟨l0, hl0⟩ := hr.loc n b hn
    obtain rfl := same n l l0 hl0 hl
    have hB := hr.blk n b l0 hn hlive hl0
    refine ⟨hB, hB.below hle (fun j v hj u hu => hcell hu) (fun ho hs => ?_), hl0⟩
    obtain ⟨_, ⟨cs, e, fr, hcs, _⟩, _⟩ := hB.mine ho hs
    exact hbel.block _ (Array.getElem?_eq_some_iff.1 hcs).1
  have oldLt : ∀ n b l, hget h n = some b → b.live → β' n = some l → l.own = true → 0 < l.size → l.blk < w.heap.size := by
    intro n b l hn hlive hl ho hs
    obtain ⟨hB, _, _⟩ := oldB n b l hn hlive hl
    obtain ⟨_, ⟨cs, e, fr, hcs, _⟩, _⟩ := hB.mine (hB.own ▸ ho) hs
    exact (Array.getElem?_eq_some_iff.1 hcs).1
  have newGe : ∀ n b l, hget d n = some b → β' n = some l → 0 < l.size → w.heap.size ≤ l.blk := by
    intro n b l hn hl hs
    obtain ⟨_, ho, l0, hl0, hB⟩ := hnew.blk n b hn
    rw [hl] at hl0; cases hl0
    exact (hB.mine ho hs).1
  refine ⟨β', hle, ⟨fun n hn => ?_, fun n b hn => ?_, fun n b l hn hlive hl => ?_, ?_⟩, hv, hbel.mono hb⟩
  · rw [hget_append] at hn
    cases hg : hget h n with
    | some c => rw [hg] at hn; cases hn
    | none => rw [hg] at hn; rw [hout n hn]; exact hr.dom n hg
  · rcases oldNew n b hn with h1 | ⟨_, h1⟩
    · obtain ⟨l0, hl0⟩ := hr.loc n b h1; exact ⟨l0, hle _ _ hl0⟩
    · obtain ⟨_, _, l, hl, _⟩ := hnew.blk n b h1; exact ⟨l, hl⟩
  · rcases oldNew n b hn with h1 | ⟨_, h1⟩
    · exact (oldB n b l h1 hlive hl).2.1
    · obtain ⟨_, ho, l0, hl0, hB⟩ := hnew.blk n b h1
      rw [hl] at hl0; cases hl0
      exact hB.base_le hb ho
  · intro n m b b' l l' hnm hn hm hlv hlv' hl hl' ho ho' hs hs'
    rcases oldNew n b hn with h1 | ⟨_, h1⟩
    · rcases oldNew m b' hm with h2 | ⟨_, h2⟩
      · exact hr.sep n m b b' l l' hnm h1 h2 hlv hlv' (oldB n b l h1 hlv hl).2.2 (oldB m b' l' h2 hlv' hl').2.2 ho ho' hs hs'
      · have := oldLt n b l h1 hlv hl ho hs
        have := newGe m b' l' h2 hl' hs'
        omega
    · rcases oldNew m b' hm with h2 | ⟨_, h2⟩
      · have := oldLt m b' l' h2 hlv' hl' ho' hs'
        have := newGe n b l h1 hl hs
        omega
      · exact hnew.sep n m b b' l l' hnm h1 h2 hl hl' hs hs'

/-! ### Writing a row -/
theorem setCells_heap (b : Nat) : ∀ (vs : List Value) (o : Nat) (w : World), (w.setCells b o vs).os = w.os ∧ (w.setCells b o vs).tape = w.tape ∧ (w.setCells b o vs).output = w.output ∧ (w.setCells b o vs).heap.size = w.heap.size ∧
    (∀ k, k ≠ b → (w.setCells b o vs).heap[k]? = w.heap[k]?) ∧ ∀ cs e fr, w.heap[b]? = some (.cells cs e fr) → ∃ cs', (w.setCells b o vs).heap[b]? = some (.cells cs' e fr) ∧ cs'.size = cs.size
  | [], o, w => ⟨rfl, rfl, rfl, rfl, fun _ _ => rfl, fun cs e fr h => ⟨cs, h, rfl⟩⟩
  | v :: r, o, w => by
    obtain ⟨h1, h2, h3, h4, h5, h6⟩ := setCells_heap b r (o + 1) (w.setCell ⟨b, o, none⟩ v)
    rw [World.setCells]
    refine ⟨h1, h2, h3, by rw [h4]; simp [World.setCell], fun k hk => ?_, fun cs e fr h => ?_⟩
    · rw [h5 k hk]; exact Below.heap_setCell _ _ _ _ hk
    · have : (w.setCell ⟨b, o, none⟩ v).heap[b]? = some (.cells (cs.setIfInBounds o v) e fr) := by
        simp [World.setCell, Array.getElem?_modify, h]
      obtain ⟨cs', h7, h8⟩ := h6 _ _ _ this
      exact ⟨cs', h7, by rw [h8]; simp⟩

theorem below_setCells {base : Nat} (w : World) (b o : Nat) (vs : List Value) (hb : base ≤ b) : Below base w (w.setCells b o vs) := by
  obtain ⟨h1, h2, h3, h4, h5, _⟩ := setCells_heap b vs o w
  exact ⟨h1, h2, h3, by rw [h4]; exact Nat.le_refl _, fun k hk => h5 k (by omega)⟩

theorem cellB_one {β : Bt} {v : AV} {u : Value} (h : VRep β v u) (hc : cellB v = true) : u.oneCell' = true := by
  cases h <;> first | rfl | cases hc

theorem cellsB_one {β : Bt} : ∀ {l : List AV} {us : List Value}, VReps β l us → l.all cellB = true → ∀ u ∈ us, u.oneCell' = true
  | _, _, .nil, _, u, hu => by cases hu
  | _, _, .cons v u0 r s h1 h2, hc, u, hu => by
    simp only [List.all_cons, Bool.and_eq_true] at hc
    rcases List.mem_cons.1 hu with rfl | hu
    · exact cellB_one h1 hc.1
    · exact cellsB_one h2 hc.2 u hu

theorem VReps.split {β : Bt} : ∀ (a : List AV) {b : List AV} {us : List Value}, VReps β (a ++ b) us → ∃ u1 u2, us = u1 ++ u2 ∧ VReps β a u1 ∧ VReps β b u2
  | [], _, us, h => ⟨[], us, rfl, .nil, h⟩
  | v :: r, _, _, h => by
    cases h with
    | cons _ u _ s h1 h2 =>
    obtain ⟨u1, u2, rfl, h3, h4⟩ := VReps.split r h2
    exact ⟨u :: u1, u2, rfl, .cons _ _ _ _ h1 h3, h4⟩

theorem EK.upd_rep {β : Bt} (κ : EK) (x y : κ.den) (c : Nat) (vs : List AV) (hc : c + vs.length ≤ κ.size) (he : κ.upd x c vs = some y) {us : List Value} (h : VReps β (splice (κ.cells x) c vs) us) : VReps β (κ.cells y) us := by
  have scal : κ.size = 1 → vs ≠ [] → κ.of vs = some y → VReps β (κ.cells y) us := by
    intro h1 hv he2
    cases vs with
    | nil => exact absurd rfl hv
    | cons v r =>
      simp only [List.length_cons] at hc
      have hc0 : c = 0 := by omega
      have hr : r = [] := List.eq_nil_of_length_eq_zero (by omega)
      subst hc0 hr
      refine EK.of_rep κ _ _ _ he2 ?_
      have : splice (κ.cells x) 0 [v] = [v] := by
        unfold splice
        rw [List.drop_eq_nil_of_le (by rw [EK.cells_length, h1]; simp)]
        rfl
      rw [this] at h
      exact h
  cases κ with
  | pair a b => exact EK.of_rep (.pair a b) _ _ _ he h
  | bool => exact scal rfl (fun e => by subst e; cases he) he
  | int k => exact scal rfl (fun e => by subst e; cases he) he
  | flt k => exact scal rfl (fun e => by subst e; cases he) he
  | cpx k => exact scal rfl (fun e => by subst e; cases he) he
  | str => exact scal rfl (fun e => by subst e; cases he) he

theorem flat_set (κ : EK) (l : List κ.den) (i : Nat) (y : κ.den) (hi : i < l.length) : (l.set i y).flatMap κ.cells = (l.take i).flatMap κ.cells ++ (κ.cells y ++ (l.drop (i + 1)).flatMap κ.cells) := by
  rw [List.set_eq_take_append_cons_drop, if_pos hi, List.flatMap_append, List.flatMap_cons]

theorem flat_splice (κ : EK) (l : List κ.den) (i c : Nat) (x : κ.den) (vs : List AV) (hx : l[i]? = some x) (hc : c + vs.length ≤ κ.size) :
    splice (l.flatMap κ.cells) (i * κ.size + c) vs = (l.take i).flatMap κ.cells ++ (splice (κ.cells x) c vs ++ (l.drop (i + 1)).flatMap κ.cells) := by
  obtain ⟨hi, hx'⟩ := List.getElem?_eq_some_iff.1 hx
  have hl : l = l.take i ++ x :: l.drop (i + 1) := by rw [← hx', List.getElem_cons_drop, List.take_append_drop]
  have hlen : ((l.take i).flatMap κ.cells).length = i * κ.size := by rw [flat_length, List.length_take]; congr 1; omega
  have e : l.flatMap κ.cells = (l.take i).flatMap κ.cells ++ (κ.cells x ++ (l.drop (i + 1)).flatMap κ.cells) := by
    conv => lhs; rw [hl]
    rw [List.flatMap_append, List.flatMap_cons]
  rw [e]
  generalize (l.take i).flatMap κ.cells = A at hlen ⊢
  generalize (l.drop (i + 1)).flatMap κ.cells = C
  have hB := EK.cells_length κ x
  generalize κ.cells x = B at hB ⊢
  unfold splice
  rw [List.take_append, List.drop_append, List.take_of_length_le (by omega), List.drop_eq_nil_of_le (by omega), show i * κ.size + c - A.length = c by omega, show i * κ.size + c + vs.length - A.length = c + vs.length by omega,
    List.take_append_of_le_length (by omega), List.drop_append_of_le_length (by omega)]
  simp

/-- A block is named anew in place: the same cells, told otherwise. -/
theorem retell {β : Bt} {h : Heap} {w : World} {base : Nat} (hr : Rep β h w base) {n : Nat} {b b' : Blk} {l : Loc} (hn : hget h n = some b) (hlive : b.live) (hl : β n = some l) (ho : b'.own = b.own) (hlen : b'.len = b.len) (hes : b'.es = b.es)
    (hcl : ∀ U, VReps β b.cl U → VReps β b'.cl U) : Rep β (hset h n b') w base := by
  have hB := hr.blk n b l hn hlive hl
  have old : ∀ m c, hget (hset h n b') m = some c → c.live → ∃ c0, hget h m = some c0 ∧ c0.live := by
    intro m c hm hc
    by_cases e : n = m
    · subst e; exact ⟨b, hn, hlive⟩
    · rw [hget_hset_ne h b' e] at hm; exact ⟨c, hm, hc⟩
  refine ⟨fun m hm => ?_, fun m c hm => ?_, fun m c lm hm hlm hlm' => ?_, fun m m' c c' lm lm' hne hm hm' h1 h2 h3 h4 h5 h6 h7 h8 => ?_⟩
  · by_cases e : n = m
    · subst e; rw [hget_hset_self h n b' b hn] at hm; cases hm
    · rw [hget_hset_ne h b' e] at hm; exact hr.dom m hm
  · by_cases e : n = m
    · subst e; exact ⟨l, hl⟩
    · rw [hget_hset_ne h b' e] at hm; exact hr.loc m c hm
  · by_cases e : n = m
    · subst e
      rw [hget_hset_self h n b' b hn] at hm; cases hm
      rw [hl] at hlm'; cases hlm'
      obtain ⟨U, hU1, hU2, hU3⟩ := VReps.of_cells (fun j => w.cell? ⟨l.blk, l.off + j, none⟩) b.cl hB.cells
      have hsp := hcl _ hU3
      have hlen2 := hsp.length
      refine ⟨by rw [hB.own, ho], by rw [hB.len, hlen], by rw [hB.es, hes], fun j x hj => ?_, fun h => hB.mine (ho ▸ h), fun h => hB.room (ho ▸ h), fun h hne => hB.other (ho ▸ h) ?_⟩
      · obtain ⟨u, hu, hx⟩ := hsp.get j hj
        exact ⟨u, hU1 j u hu, hx⟩
      · intro h0
        rw [h0] at hU2
        exact hne (List.eq_nil_of_length_eq_zero (by rw [hlen2, hU2]; rfl))
    · rw [hget_hset_ne h b' e] at hm
      exact hr.blk m c lm hm hlm hlm'
  · obtain ⟨c0, g1, g2⟩ := old m c hm h1
    obtain ⟨c1, g3, g4⟩ := old m' c' hm' h2
    exact hr.sep m m' c0 c1 lm lm' hne g1 g3 g2 g4 h3 h4 h5 h6 h7 h8

/-- A write into a block of one's own: 'cs' at cell k of it. -/
theorem write_post {β : Bt} {h : Heap} {w : World} {base : Nat} (hr : Rep β h w base) {n : Nat} {b b' : Blk} {l : Loc} (hn : hget h n = some b) (hlive : b.live) (hl : β n = some l) (ho : b.own = true) (ho' : b'.own = true) (hlen : b'.len = b.len) (hes : b'.es = b.es)
    {k : Nat} {cs : List AV} {us : List Value} (hcs : VReps β cs us) (hk : k + cs.length ≤ b.cl.length) (hcl : ∀ U, VReps β (splice b.cl k cs) U → VReps β b'.cl U) :
    Rep β (hset h n b') (w.setCells l.blk (l.off + k) us) base ∧ Below base w (w.setCells l.blk (l.off + k) us) := by
  by_cases h0 : cs = []
  · subst h0
    cases hcs
    refine ⟨retell hr hn hlive hl (by rw [ho, ho']) hlen hes fun U hU => hcl U ?_, Below.refl _ _⟩
    have : splice b.cl k [] = b.cl := by unfold splice; simp
    rw [this]; exact hU
  · skip
    have hB := hr.blk n b l hn hlive hl
    have hroom := hB.room ho
    have hcl' := b.cl_length
    have hlen1 : l.len = b.len := hB.len
    have hes1 : l.es = b.es := hB.es
    have hpos : 0 < cs.length := List.length_pos_iff.2 h0
    have hsz : 0 < l.size := by rw [hlen1, hes1] at hroom; omega
    obtain ⟨hbase, ⟨cs0, e0, fr0, hheap, hcsz⟩, hfr⟩ := hB.mine ho hsz
    obtain ⟨_, _, _, _, hother, hself⟩ := setCells_heap l.blk us (l.off + k) w
    have hbel := below_setCells w l.blk (l.off + k) us hbase
    have hex : ∀ j, j < us.length → (w.cell? ⟨l.blk, l.off + k + j, none⟩).isSome = true := by
      intro j hj
      have hj' : k + j < b.cl.length := by have := hcs.length; omega
      obtain ⟨u, hu, _⟩ := hB.cells (k + j) _ (List.getElem?_eq_getElem hj')
      rw [Nat.add_assoc, hu]; rfl
    have hcellOther : ∀ p : Addr, p.block ≠ l.blk → (w.setCells l.blk (l.off + k) us).cell? p = w.cell? p := fun p hp => World.cell?_of_block (w := w) (hother _ hp)
    refine ⟨⟨fun m hm => ?_, fun m c hm => ?_, fun m c lm hm hlm hlm' => ?_, fun m m' c c' lm lm' hne hm hm' h1 h2 h3 h4 h5 h6 h7 h8 => ?_⟩, hbel⟩
    · by_cases e : n = m
      · subst e; rw [hget_hset_self h n b' b hn] at hm; cases hm
      · rw [hget_hset_ne h b' e] at hm; exact hr.dom m hm
    · by_cases e : n = m
      · subst e; exact ⟨l, hl⟩
      · rw [hget_hset_ne h b' e] at hm; exact hr.loc m c hm
    · by_cases e : n = m
      · subst e
        rw [hget_hset_self h n b' b hn] at hm; cases hm
        rw [hl] at hlm'; cases hlm'
        refine ⟨by rw [hB.own, ho, ho'], by rw [hlen1, hlen], by rw [hes1, hes], ?_, fun _ _ => ⟨hbase, ?_, fun o ho2 => ?_⟩, fun _ => by exact hroom, fun h => by rw [ho'] at h; cases h⟩
        · obtain ⟨U, hU1, hU2, hU3⟩ := VReps.of_cells (fun j => w.cell? ⟨l.blk, l.off + j, none⟩) b.cl hB.cells
          have hsp := hcl _ (hU3.splice hcs k)
          intro j x hj
          obtain ⟨u, hu, hx⟩ := hsp.get j hj
          refine ⟨u, ?_, hx⟩
          by_cases hin : k ≤ j ∧ j < k + us.length
          · have hu' : us[j - k]? = some u := by
              rw [List.append_assoc, List.getElem?_append_right (by rw [List.length_take]; omega), List.length_take, show j - min k U.length = j - k by have := hcs.length; omega, List.getElem?_append_left (by omega)] at hu
              exact hu
            obtain ⟨hlt, hu''⟩ := List.getElem?_eq_some_iff.1 hu'
            have := World.cell?_setCells_in l.blk us (l.off + k) w hex (j - k) hlt
            rw [show l.off + k + (j - k) = l.off + j by omega] at this
            rw [this, hu'']
          · have hu' : U[j]? = some u := by
              have hul : us.length = cs.length := hcs.length.symm
              by_cases hjk : j < k
              · rw [List.append_assoc, List.getElem?_append_left (by rw [List.length_take]; omega), List.getElem?_take, if_pos hjk] at hu
                exact hu
              · rw [List.getElem?_append_right (by simp only [List.length_append, List.length_take]; omega), List.getElem?_drop] at hu
                simp only [List.length_append, List.length_take] at hu
                rw [show k + us.length + (j - (min k U.length + us.length)) = j by omega] at hu
                exact hu
            rw [World.cell?_setCells_out l.blk us (l.off + k) w _ (fun _ _ => by simp only; omega)]
            exact hU1 j u hu'
        · obtain ⟨cs', h1, h2⟩ := hself _ _ _ hheap
          exact ⟨cs', e0, fr0, h1, by rw [h2, hcsz]⟩
        · rw [World.frozen?_setCells]; exact hfr o ho2
      · rw [hget_hset_ne h b' e] at hm
        have hBm := hr.blk m c lm hm hlm hlm'
        refine hBm.below (Bt.le_refl β) (fun j x hj u hu => ?_) (fun hco hs => ?_)
        · have hne2 : c.cl ≠ [] := fun e0 => by rw [e0] at hj; cases hj
          have hblk : lm.blk ≠ l.blk := by
            cases hco : c.own with
            | true =>
              have h1 := hBm.room hco
              have h2 := c.cl_length
              have h3 : 0 < c.cl.length := List.length_pos_iff.2 hne2
              rw [hBm.len, hBm.es] at h1
              exact fun e2 => hr.sep n m b c l lm e hn hm hlive hlm hl hlm' (by rw [hB.own, ho]) (by rw [hBm.own, hco]) hsz (by omega) e2.symm
            | false => have := hBm.other hco hne2; omega
          rw [hcellOther _ hblk]; exact hu
        · exact hother _ fun e2 => hr.sep n m b c l lm e hn hm hlive hlm hl hlm' (by rw [hB.own, ho]) (by rw [hBm.own, hco]) hsz hs e2.symm
    · have old : ∀ m c, hget (hset h n b') m = some c → c.live → ∃ c0, hget h m = some c0 ∧ c0.live := by
        intro m c hm hc
        by_cases e : n = m
        · subst e; exact ⟨b, hn, hlive⟩
        · rw [hget_hset_ne h b' e] at hm; exact ⟨c, hm, hc⟩
      obtain ⟨c0, g1, g2⟩ := old m c hm h1
      obtain ⟨c1, g3, g4⟩ := old m' c' hm' h2
      exact hr.sep m m' c0 c1 lm lm' hne g1 g3 g2 g4 h3 h4 h5 h6 h7 h8

/-! ### Stores -/
section
variable {P : Program} {Γ : Ctx}


/-- what a store checks and does, once the block is known -/
theorem storeCells_own {β : Bt} {h : Heap} {w : World} {base : Nat} (hr : Rep β h w base) {n : Nat} {b : Blk} {l : Loc} (hn : hget h n = some b) (hlive : b.live) (hl : β n = some l) (ho : b.own = true)
    {k : Nat} {cs : List AV} {us : List Value} (hcs : VReps β cs us) (hone : ∀ u ∈ us, u.oneCell' = true) (hk : k + cs.length ≤ b.cl.length) :
    (storeCells ⟨l.blk, l.off + k, none⟩ us).run P w = .ok () (w.setCells l.blk (l.off + k) us) := by
  have hB := hr.blk n b l hn hlive hl
  have hroom := hB.room ho
  have hcl := b.cl_length
  rw [hB.len, hB.es] at hroom
  have hl2 := hcs.length
  have := run_storeCells_cells (P := P) l.blk (l.off + k) us 0 w (fun j hj => ?_) (fun j hj => ?_) hone
  · simpa using this
  · obtain ⟨u, hu, _⟩ := hB.cells (k + j) _ (List.getElem?_eq_getElem (by omega))
    rw [show l.off + k + 0 + j = l.off + (k + j) by omega, hu]; rfl
  · exact (hB.mine ho (by omega)).2.2 _ (by omega)

theorem storeA_run {β : Bt} {h : Heap} {w : World} {base : Nat} (hΓ : TysOk P Γ) (hr : Rep β h w base) (t : Nat) (p v : AV) (x y : Value) (hx : VRep β p x) (hy : VRep β v y) (h' : Heap) (he : (storeA Γ h t p v).den = some h') :
    ∃ w', (Instr.storeAt t x y).run P w = .ok () w' ∧ Rep β h' w' base ∧ Below base w w' := by
  unfold storeA at he
  split at he
  · rename_i ti n i c hti
    have hT := hΓ.ty _ _ hti
    cases hx with
    | ptr _ _ _ l hl hi hc =>
    dsimp only at he
    -- the cells of the value
    have cells : ∀ cs, (match v with
        | .agg l => if ti.isAgg = true ∧ l.length = ti.size ∧ l.all cellB = true then some l else none
        | .top | .tup _ | .arv _ _ | .nils _ => none
        | v => if ti.isAgg = true ∨ ti.size ≠ 1 then none else some [v]) = some cs → VReps β cs y.cells.toList ∧ cs.length = ti.size ∧ ∀ u ∈ y.cells.toList, u.oneCell' = true := by
      intro cs hcs
      have one : ∀ (_ : cellB v = true) (_ : (if ti.isAgg = true ∨ ti.size ≠ 1 then none else some [v]) = some cs), VReps β cs y.cells.toList ∧ cs.length = ti.size ∧ ∀ u ∈ y.cells.toList, u.oneCell' = true := by
        intro hb hcs
        split at hcs
        · cases hcs
        · rename_i hz
          cases hcs
          have h1 := cellB_one hy hb
          have hcell : y.cells.toList = [y] := by cases y <;> first | rfl | cases h1
          rw [hcell]
          refine ⟨.one hy, by simp only [List.length_singleton]; omega, fun u hu => ?_⟩
          rw [List.mem_singleton] at hu; subst hu; exact h1
      cases v with
      | agg l =>
        cases hy with
        | agg _ us hus =>
        dsimp only at hcs
        split at hcs
        · rename_i hc
          cases hcs
          exact ⟨hus, hc.2.1, cellsB_one hus hc.2.2⟩
        · cases hcs
      | top => cases hcs
      | tup _ => cases hcs
      | arv _ _ => cases hcs
      | nils _ => cases hcs
      | _ => exact one rfl hcs
    have run : ∀ (b b' : Blk) (k : Nat) (cs : List AV), hget h n = some b → b.live → b.own = true → b'.own = true → b'.len = b.len → b'.es = b.es → VReps β cs y.cells.toList → cs.length = ti.size → (∀ u ∈ y.cells.toList, u.oneCell' = true) →
        k + cs.length ≤ b.cl.length → (∀ U, VReps β (splice b.cl k cs) U → VReps β b'.cl U) → l.off + (i * l.es + c) = l.off + k → h' = hset h n b' →
        ∃ w', (Instr.storeAt t (.pointer (some ⟨l.blk, l.off + (i * l.es + c), none⟩)) y).run P w = .ok () w' ∧ Rep β h' w' base ∧ Below base w w' := by
      intro b b' k cs hn hlive ho ho' hlen hes hcs hsz hone hk hcl haddr hh
      subst hh
      rw [haddr]
      refine ⟨_, ?_, write_post hr hn hlive hl ho ho' hlen hes hcs hk hcl⟩
      have hst := storeCells_own (P := P) hr hn hlive hl ho hcs hone hk
      have hs : y.cells.size = ti.size := by rw [← hsz, hcs.length]; simp
      simp only [Instr.storeAt, Instr.sureAddr, Sem.run_bind, Sem.run_pure, Result.andThen_ok, storeVar, hT.sizeOf w, hs, ne_eq, not_true_eq_false, if_false, hst]
    split at he
    · rename_i cs l0 hcs hn
      obtain ⟨h1, h2, h3⟩ := cells cs hcs
      have hb := hr.blk n _ l hn trivial hl
      have hes : l.es = 1 := hb.es
      split at he
      · rename_i hc0
        refine run _ (.vals true (splice l0 i cs)) i cs hn trivial rfl rfl ?_ rfl h1 h2 h3 hc0.2 (fun U hU => hU) (by rw [hes]; omega) (den_ret he).symm
        show (splice l0 i cs).length = l0.length
        unfold splice
        simp only [List.length_append, List.length_take, List.length_drop]
        omega
      · exact (den_fail he).elim
    · rename_i cs κ l0 hcs hn
      obtain ⟨h1, h2, h3⟩ := cells cs hcs
      have hb := hr.blk n _ l hn trivial hl
      have hes : l.es = κ.size := hb.es
      have hlen : l.len = l0.length := hb.len
      split at he
      · split at he
        case isFalse => exact (den_fail he).elim
        rename_i _ hw
        obtain ⟨rfl, rfl, hw1⟩ := hw
        split at he
        · rename_i l1 hl1
          have g1 := chunks_length κ _ _ _ hl1
          refine run _ (.arr true κ l1) 0 cs hn trivial rfl rfl ?_ rfl h1 h2 h3 ?_ (fun U hU => ?_) (by rw [hes]; omega) (den_ret he).symm
          · show l1.length = l0.length; exact g1
          · show 0 + cs.length ≤ (l0.flatMap κ.cells).length
            rw [flat_length]; omega
          · have hU' : VReps β (splice (l0.flatMap κ.cells) 0 cs) U := hU
            have e : splice (l0.flatMap κ.cells) 0 cs = cs := by
              unfold splice
              rw [List.take_zero, List.nil_append, Nat.zero_add, List.drop_eq_nil_of_le (by rw [flat_length]; omega), List.append_nil]
            rw [e] at hU'
            exact chunks_rep κ _ _ _ _ hl1 hU'
        · exact (den_fail he).elim
      split at he
      · rename_i y0 hy0
        split at he
        · rename_i hcz
          have hget : l0[i]? = some (l0.getD i κ.dflt) := getD_of (by omega)
          have hfs := flat_splice κ l0 i c (l0.getD i κ.dflt) cs hget hcz
          refine run _ (.arr true κ (l0.set i y0)) (i * κ.size + c) cs hn trivial rfl rfl ?_ rfl h1 h2 h3 ?_ (fun U hU => ?_) (by rw [hes]) (den_ret he).symm
          · show (l0.set i y0).length = l0.length; exact List.length_set
          · show i * κ.size + c + cs.length ≤ (l0.flatMap κ.cells).length
            rw [flat_length]
            have : (i + 1) * κ.size ≤ l0.length * κ.size := Nat.mul_le_mul_right _ (by omega)
            rw [Nat.succ_mul] at this
            omega
          · have hU' : VReps β (splice (l0.flatMap κ.cells) (i * κ.size + c) cs) U := hU
            rw [hfs] at hU'
            obtain ⟨u1, u2, rfl, g1, g2⟩ := VReps.split _ hU'
            obtain ⟨u3, u4, rfl, g3, g4⟩ := VReps.split _ g2
            show VReps β ((l0.set i y0).flatMap κ.cells) _
            rw [flat_set κ l0 i y0 (by omega)]
            exact g1.append ((EK.upd_rep κ _ _ c cs hcz hy0 g3).append g4)
        · exact (den_fail he).elim
      · exact (den_fail he).elim
    · exact (den_fail he).elim
  · exact (den_fail he).elim
end
end Go.Ab

/-
  Appends.
-/
namespace Go.Ab
open Go.RowKit

/-- A block is given up for a new name. -/
theorem swap_post {β : Bt} {h : Heap} {w w' : World} {base : Nat} (hr : Rep β h w base) {n nm : Nat} {b b' : Blk} {l l' : Loc} (hn : hget h n = some b) (hlive : b.live) (hl : β n = some l) (ho : b.own = true) (hnm : hget h nm = none)
    (hother : ∀ k, k < w.heap.size → (k = l.blk → l.size = 0) → w'.heap[k]? = w.heap[k]?)
    (hB' : BRep (extB β [] nm l') w' base l' b') (ho' : b'.own = true) (hblk : 0 < l'.size → (l'.blk = l.blk ∧ 0 < l.size) ∨ w.heap.size ≤ l'.blk) :
    β.le (extB β [] nm l') ∧ Rep (extB β [] nm l') (hset h n .dead ++ [(nm, b')]) w' base := by
  have hβ : β nm = none := hr.dom nm hnm
  have hle : β.le (extB β [] nm l') := by
    intro m lm h
    unfold extB
    by_cases e : m = nm
    · subst e; rw [hβ] at h; cases h
    · rw [if_neg e]; exact h
  have hne : n ≠ nm := fun e => by subst e; rw [hn] at hnm; cases hnm
  have hB := hr.blk n b l hn hlive hl
  have get : ∀ m c, hget (hset h n .dead ++ [(nm, b')]) m = some c → (m = nm ∧ c = b') ∨ (m = n ∧ c = .dead) ∨ (m ≠ n ∧ m ≠ nm ∧ hget h m = some c) := by
    intro m c hm
    rw [hget_append] at hm
    by_cases e : n = m
    · subst e
      rw [hget_hset_self h n _ b hn] at hm
      cases hm
      exact .inr (.inl ⟨rfl, rfl⟩)
    · rw [hget_hset_ne h _ e] at hm
      by_cases e2 : m = nm
      · subst e2
        rw [hnm, hget_cons_self] at hm
        cases hm
        exact .inl ⟨rfl, rfl⟩
      · refine .inr (.inr ⟨fun e3 => e e3.symm, e2, ?_⟩)
        cases hg : hget h m with
        | some c' => rw [hg] at hm; exact hm
        | none => rw [hg, hget_cons_ne _ _ (fun e => e2 e.symm)] at hm; cases hm
  have loc' : ∀ m, m ≠ nm → extB β [] nm l' m = β m := fun m e => by unfold extB; rw [if_neg e]; rfl
  have locN : extB β [] nm l' nm = some l' := by unfold extB; rw [if_pos rfl]
  -- the others keep their block
  have keep : ∀ m c lm, m ≠ n → hget h m = some c → c.live → β m = some lm → (c.cl ≠ [] ∨ (c.own = true ∧ 0 < lm.size)) → w'.heap[lm.blk]? = w.heap[lm.blk]? ∧ lm.blk < w.heap.size := by
    intro m c lm hmn hm hc hlm hh
    have hBm := hr.blk m c lm hm hc hlm
    have hblk : lm.blk < w.heap.size := by
      rcases hh with hh | ⟨h1, h2⟩
      · obtain ⟨v, hv⟩ : ∃ v, c.cl[0]? = some v := ⟨c.cl[0]'(List.length_pos_iff.2 hh), List.getElem?_eq_getElem _⟩
        obtain ⟨u, hu, _⟩ := hBm.cells 0 v hv
        exact cell_lt hu
      · obtain ⟨_, ⟨cs, e, fr, h3, _⟩, _⟩ := hBm.mine h1 h2
        exact (Array.getElem?_eq_some_iff.1 h3).1
    refine ⟨hother _ hblk fun e => ?_, hblk⟩
    by_cases hz : l.size = 0
    · exact hz
    · exfalso
      obtain ⟨hbase, _⟩ := hB.mine ho (by omega)
      cases hco : c.own with
      | true =>
        have hs : 0 < lm.size := by
          rcases hh with hh | ⟨_, h2⟩
          · have h1 := hBm.room hco
            have h2 := c.cl_length
            have h3 : 0 < c.cl.length := List.length_pos_iff.2 hh
            rw [hBm.len, hBm.es] at h1
            omega
          · exact h2
        exact hr.sep n m b c l lm (fun e => hmn e.symm) hn hm hlive hc hl hlm (by rw [hB.own, ho]) (by rw [hBm.own, hco]) (by omega) hs e.symm
      | false =>
        rcases hh with hh | ⟨h1, _⟩
        · have := hBm.other hco hh; omega
        · rw [hco] at h1; cases h1
  refine ⟨hle, ⟨fun m hm => ?_, fun m c hm => ?_, fun m c lm hm hc hlm => ?_, fun m m' c c' lm lm' hmm hm hm' hc hc' hlm hlm' o1 o2 s1 s2 => ?_⟩⟩
  · have hmn : m ≠ nm := by
      intro e; subst e
      rw [hget_append, hget_hset_ne h _ hne, hnm, hget_cons_self] at hm; cases hm
    rw [loc' m hmn]
    apply hr.dom
    by_cases e : n = m
    · subst e; rw [hget_append, hget_hset_self h n _ b hn] at hm; cases hm
    · rw [hget_append, hget_hset_ne h _ e] at hm
      cases hg : hget h m with
      | none => rfl
      | some c => rw [hg] at hm; cases hm
  · rcases get m c hm with ⟨rfl, _⟩ | ⟨rfl, _⟩ | ⟨_, h2, h3⟩
    · exact ⟨l', locN⟩
    · exact ⟨l, by rw [loc' _ hne]; exact hl⟩
    · rw [loc' _ h2]; exact hr.loc m c h3
  · rcases get m c hm with ⟨rfl, rfl⟩ | ⟨rfl, rfl⟩ | ⟨h1, h2, h3⟩
    · rw [locN] at hlm; cases hlm; exact hB'
    · exact hc.elim
    · rw [loc' _ h2] at hlm
      refine (hr.blk m c lm h3 hc hlm).below hle (fun j v hj u hu => ?_) (fun hco hs => (keep m c lm h1 h3 hc hlm (.inr ⟨hco, hs⟩)).1)
      have := keep m c lm h1 h3 hc hlm (.inl fun e => by rw [e] at hj; cases hj)
      rw [World.cell?_of_block (w := w) (w' := w') this.1]; exact hu
  · have side : ∀ m c lm, hget (hset h n .dead ++ [(nm, b')]) m = some c → c.live → m ≠ nm → extB β [] nm l' m = some lm → lm.own = true → 0 < lm.size → 0 < l'.size → lm.blk ≠ l'.blk := by
      intro m c lm hm hc hmn hlm o1 s1 s2 e
      rcases get m c hm with ⟨rfl, _⟩ | ⟨_, rfl⟩ | ⟨h1, h2, h3⟩
      · exact hmn rfl
      · exact hc
      · rw [loc' _ h2] at hlm
        have hBm := hr.blk m c lm h3 hc hlm
        obtain ⟨_, hlt⟩ := keep m c lm h1 h3 hc hlm (.inr ⟨by rw [← hBm.own]; exact o1, s1⟩)
        rcases hblk s2 with ⟨h4, h5⟩ | h4
        · exact hr.sep n m b c l lm (fun e => h1 e.symm) hn h3 hlive hc hl hlm (by rw [hB.own, ho]) o1 h5 s1 (by rw [← h4, e])
        · omega
    by_cases e1 : m = nm
    · subst e1
      rw [locN] at hlm; cases hlm
      exact fun e => side m' c' lm' hm' hc' (fun e => hmm e.symm) hlm' o2 s2 s1 e.symm
    · by_cases e2 : m' = nm
      · subst e2
        rw [locN] at hlm'; cases hlm'
        exact side m c lm hm hc hmm hlm o1 s1 s2
      · rw [loc' _ e1] at hlm
        rw [loc' _ e2] at hlm'
        rcases get m c hm with ⟨rfl, _⟩ | ⟨_, rfl⟩ | ⟨_, _, h3⟩
        · exact absurd rfl e1
        · exact hc.elim
        · rcases get m' c' hm' with ⟨rfl, _⟩ | ⟨_, rfl⟩ | ⟨_, _, h4⟩
          · exact absurd rfl e2
          · exact hc'.elim
          · exact hr.sep m m' c c' lm lm' hmm h3 h4 hc hc' hlm hlm' o1 o2 s1 s2

section
variable {P : Program} {Γ : Ctx}

theorem appendA_run {β : Bt} {h : Heap} {w : World} {base : Nat} (hΓ : TysOk P Γ) (hr : Rep β h w base) (hb : base ≤ w.heap.size) (nm ty : Nat) (ts : Array Nat) (s x : AV) (S X : Value) (hS : VRep β s S) (hX : VRep β x X)
    (r : AV × Heap) (he : (appendA Γ h nm ts.toList s x).den = some r) : ∃ u w', (Builtin.append_ ts ty #[S, X]).run P w = .ok u w' ∧ Post β w base r.1 r.2 u w' := by
  unfold appendA at he
  split at he
  · rename_i st xt more hts
    have h0 : ts[0]? = some st := by rw [← Array.getElem?_toList, hts]; rfl
    have h1 : ts[1]? = some xt := by rw [← Array.getElem?_toList, hts]; rfl
    split at he
    · rename_i e _ _ _ _ hst
      obtain ⟨d, _, hd, hu⟩ := (hΓ.ty _ _ hst).under
      obtain rfl := dok_slc hd
      split at he
      · rename_i te tx hte htx
        obtain ⟨dx, _, hdx, hux⟩ := (hΓ.ty _ _ htx).under
        obtain ⟨info, hi, hisz, hiby, z, hz, hzs, hzr⟩ := (hΓ.ty _ _ hte).ex
        have hsizeOf := (hΓ.ty _ _ hte).sizeOf w
        split at he
        · rename_i κ hκ
          split at he
          · rename_i hc
            obtain ⟨hc1, hc2, hc3, hc4⟩ := hc
            have hnot := dNot hdx hc4
            generalize hfr : (!(hget h nm).isNone) = fr at he
            cases fr with
            | true => exact (den_fail he).elim
            | false =>
            have hnm : hget h nm = none := by
              cases hg : hget h nm with
              | none => rfl
              | some c => rw [hg] at hfr; cases hfr
            have hβ : β nm = none := hr.dom nm hnm
            simp only [cond_false] at he
            split at he
            · exact (den_fail he).elim
            · rename_i new hnew
              obtain ⟨a, c, us, rfl, hus, hrun⟩ := new_run (P := P) hr hnew hX
              have hul : us.length = new.length * κ.size := by rw [← hus.length, flat_length]
              have kept : ∀ p v, w.cell? p = some v → w.drew.cell? p = some v := fun p v h => h
              have hz36 : maxA = 2 ^ 36 := rfl
              have hone := cellsB_one hus (flat_cellB κ new)
              rw [hc1] at hsizeOf
              have hisz' : info.size = κ.size := by rw [hisz, hc1]
              split at he
              · rename_i n off len
                split at he
                · rename_i κ' l hn
                  split at he
                  · rename_i e'
                    subst e'
                    obtain ⟨hm, he⟩ := den_ifb he
                    simp only [decide_eq_true_eq] at hm
                    have := den_ret he
                    subst this
                    obtain ⟨a0, cap, os, hSe, hsl, hos, hold⟩ := elems_run (P := P) hr hn hS
                    subst hSe
                    cases hS with
                    | slc _ _ _ l0 _ _ hl hok =>
                    have hB := hr.blk n _ l0 hn trivial hl
                    have hes : l0.es = κ'.size := hB.es
                    have hown : l0.own = true := hB.own
                    have hpos := κ'.size_pos
                    have hosl : os.length = len * κ'.size := by rw [← hos.length, flat_length, hsl]
                    have hLen : (sub l off len ++ new).length = len + new.length := by rw [List.length_append, hsl]
                    have hall : VReps β ((sub l off len ++ new).flatMap κ'.cells) (os ++ us) := by rw [List.flatMap_append]; exact hos.append hus
                    have hle : ∀ l', β.le (extB β [] nm l') := fun l' m lm h => by
                      unfold extB
                      by_cases e : m = nm
                      · subst e; rw [hβ] at h; cases h
                      · rw [if_neg e]; exact h
                    have hN : ∀ l', extB β [] nm l' nm = some l' := fun l' => by unfold extB; rw [if_pos rfl]
                    show ∃ u w', _ ∧ Post β w base (.slc nm 0 (sub l off len ++ new).length) (hset h n .dead ++ [(nm, .arr true κ' (sub l off len ++ new))]) u w'
                    by_cases hroom : len + new.length ≤ cap
                    · obtain ⟨hk1, hk2⟩ := hok
                      rcases hk2 with ⟨rfl, hcap⟩ | ⟨rfl, hk3, hk4⟩
                      · -- no room, and nothing comes
                        obtain rfl := hcap hown
                        have hnew0 : new = [] := List.eq_nil_of_length_eq_zero (by omega)
                        subst hnew0
                        have hus0 : us = [] := List.eq_nil_of_length_eq_zero (by rw [hul]; simp)
                        subst hus0
                        have hs0 : sub l off 0 = [] := List.eq_nil_of_length_eq_zero hsl
                        refine ⟨_, w, append_in (P := P) h0 h1 hu hux hnot hsizeOf hroom (hrun w fun _ _ h => h) (fun p _ => rfl) (fun _ => rfl), ?_⟩
                        obtain ⟨g1, g2⟩ := swap_post (l' := ⟨0, 0, 0, 0, κ'.size, true⟩) (b' := .arr true κ' (sub l off 0 ++ [])) hr hn trivial hl rfl hnm (w' := w) (fun _ _ _ => rfl)
                          (by rw [hs0]; exact brep_own rfl rfl rfl (us := []) .nil (fun j u h => by simp at h) (fun h => absurd h (by simp)) (by simp)) rfl (fun h => absurd h (by simp))
                        refine ⟨_, g1, g2, ?_, Below.refl _ _⟩
                        rw [hLen]
                        exact .slc nm 0 0 ⟨0, 0, 0, 0, κ'.size, true⟩ _ _ (hN _) ⟨by simp, .inl ⟨rfl, fun _ => rfl⟩⟩
                      · -- in place
                        have hk4 := hk4 hown
                        rw [hes] at hk4
                        have hend : l0.off + off * κ'.size + len * κ'.size + us.length ≤ l0.size := by
                          rw [hul]
                          have : (off + (len + new.length)) * κ'.size ≤ (off + cap) * κ'.size := Nat.mul_le_mul_right _ (by omega)
                          rw [Nat.add_mul, Nat.add_mul] at this
                          omega
                        have hlocOk : l0.off + off * κ'.size + (len + new.length) * κ'.size ≤ l0.size := by rw [Nat.add_mul, ← hul]; omega
                        have mine : 0 < l0.size → base ≤ l0.blk ∧ (∃ cs e fr, w.heap[l0.blk]? = some (.cells cs e fr) ∧ cs.size = l0.size) ∧ ∀ o, o < l0.size → w.frozen? ⟨l0.blk, o, none⟩ = false := fun h => hB.mine rfl h
                        have hexi : ∀ o, o < l0.size → (w.cell? ⟨l0.blk, o, none⟩).isSome = true := by
                          intro o ho
                          obtain ⟨_, ⟨cs, e, fr, g1, g2⟩, _⟩ := mine (by omega)
                          rw [cell_of_row w l0.blk o cs e fr g1, Array.getElem?_eq_getElem (by omega)]; rfl
                        have hst := run_storeCells_cells (P := P) l0.blk (l0.off + off * κ'.size + len * κ'.size) us 0 w (fun j hj => hexi _ (by omega)) (fun j hj => (mine (by omega)).2.2 _ (by omega)) hone
                        rw [hes]
                        rw [hes] at hold
                        refine ⟨_, w.setCells l0.blk (l0.off + off * κ'.size + len * κ'.size) us, append_in (P := P) h0 h1 hu hux hnot hsizeOf hroom (hrun w fun _ _ h => h) (fun p hp => ?_) (fun h => by cases h), ?_⟩
                        · cases hp
                          rw [addr_add]
                          simpa using hst
                        · obtain ⟨_, _, _, hhs, hother, hself⟩ := setCells_heap l0.blk us (l0.off + off * κ'.size + len * κ'.size) w
                          obtain ⟨U, hU1, hU2, hU3⟩ := VReps.of_cells (fun j => w.cell? ⟨l0.blk, l0.off + off * κ'.size + j, none⟩) ((sub l off len).flatMap κ'.cells) (fun j x hj => by
                            rw [sub_flat, List.getElem?_take] at hj
                            split at hj
                            · rw [List.getElem?_drop] at hj
                              obtain ⟨u, hu, hv⟩ := hB.cells (off * κ'.size + j) x hj
                              exact ⟨u, by rw [Nat.add_assoc]; exact hu, hv⟩
                            · cases hj)
                          have hUl : U.length = len * κ'.size := by rw [hU2, flat_length, hsl]
                          have hall' : VReps β ((sub l off len ++ new).flatMap κ'.cells) (U ++ us) := by rw [List.flatMap_append]; exact hU3.append hus
                          have hg : β.le (extB β [] nm ⟨l0.blk, l0.off + off * κ'.size, l0.size, len + new.length, κ'.size, true⟩) ∧ Rep (extB β [] nm ⟨l0.blk, l0.off + off * κ'.size, l0.size, len + new.length, κ'.size, true⟩) (hset h n .dead ++ [(nm, .arr true κ' (sub l off len ++ new))]) (w.setCells l0.blk (l0.off + off * κ'.size + len * κ'.size) us) base := by
                            refine swap_post hr hn trivial hl rfl hnm (fun k hk hz => ?_) (brep_own rfl hLen.symm rfl (hall'.mono (hle _)) (fun j u hj => ?_) (fun hs => ?_) hlocOk) rfl (fun h => .inl ⟨rfl, h⟩)
                            · by_cases e : k = l0.blk
                              · have hz := hz e
                                have : us = [] := List.eq_nil_of_length_eq_zero (by omega)
                                subst this
                                rfl
                              · exact hother k e
                            · simp only
                              by_cases hj2 : j < U.length
                              · rw [List.getElem?_append_left hj2] at hj
                                rw [World.cell?_setCells_out l0.blk us _ w _ (fun _ _ => by simp only; omega)]
                                exact hU1 j u hj
                              · rw [List.getElem?_append_right (by omega)] at hj
                                obtain ⟨h3, h4⟩ := List.getElem?_eq_some_iff.1 hj
                                have := World.cell?_setCells_in l0.blk us (l0.off + off * κ'.size + len * κ'.size) w (fun i hi => hexi _ (by omega)) (j - U.length) h3
                                rw [show l0.off + off * κ'.size + len * κ'.size + (j - U.length) = l0.off + off * κ'.size + j by omega] at this
                                rw [this, h4]
                            · obtain ⟨q1, ⟨cs, e, fr, q2, q3⟩, q4⟩ := mine hs
                              obtain ⟨cs', q5, q6⟩ := hself _ _ _ q2
                              exact ⟨q1, ⟨cs', e, fr, q5, by rw [q6, q3]⟩, fun o ho => by rw [World.frozen?_setCells]; exact q4 o ho⟩
                          obtain ⟨g1, g2⟩ := hg
                          refine ⟨_, g1, g2, ?_, ?_⟩
                          · rw [hLen]
                            refine .slc nm 0 _ ⟨l0.blk, l0.off + off * κ'.size, l0.size, len + new.length, κ'.size, true⟩ _ _ (hN _) ⟨by simp, .inr ⟨by simp, hroom, fun _ => ?_⟩⟩
                            simp only [Nat.zero_add]
                            rw [Nat.add_mul] at hk4
                            exact (Nat.add_assoc _ _ _).symm ▸ hk4
                          · by_cases hz : l0.size = 0
                            · have : us = [] := List.eq_nil_of_length_eq_zero (by omega)
                              subst this
                              exact Below.refl _ _
                            · exact below_setCells w _ _ _ (mine (by omega)).1
                    · -- elsewhere
                      obtain ⟨k, hk⟩ := append_out (P := P) (ty := ty) (w := w) (b := a0) h0 h1 hu hux hnot hi hz hroom (by omega) (by rw [hiby]; exact hc3) (by rw [hisz']; exact hrun _ kept) (by rw [hisz']; exact hold _ kept)
                      refine ⟨_, _, hk, ?_⟩
                      have hex : (os.toArray ++ us.toArray ++ Builtin.zeroCells z.cells k) = (os ++ us).toArray ++ (Builtin.zeroCells z.cells k).toList.toArray := by simp
                      rw [hex]
                      have hlen : (Builtin.zeroCells z.cells k).toList.length = k * κ'.size := by rw [Array.length_toList, size_zeroCells, hzs, hc1]
                      obtain ⟨g1, g2⟩ := swap_post (l' := ⟨w.heap.size, 0, (os ++ us).length + (Builtin.zeroCells z.cells k).toList.length, (sub l off len ++ new).length, κ'.size, true⟩) (b' := .arr true κ' (sub l off len ++ new)) hr hn trivial hl rfl hnm
                        (w' := w.drew.alloc (.cells ((os ++ us).toArray ++ (Builtin.zeroCells z.cells k).toList.toArray) e)) (fun q hq _ => heap_alloc_old w.drew _ hq) (grown_brep hb (hall.mono (hle _))) rfl (fun _ => .inr (Nat.le_refl _))
                      refine ⟨_, g1, g2, ?_, (below_alloc w _).mono hb⟩
                      refine hLen ▸ .slc nm 0 _ ⟨w.heap.size, 0, (os ++ us).length + (Builtin.zeroCells z.cells k).toList.length, (sub l off len ++ new).length, κ'.size, true⟩ _ _ (hN _) ⟨by simp, .inr ⟨by simp, by omega, fun _ => ?_⟩⟩
                      simp only [hlen, List.length_append, hosl, hul, hsl, Nat.zero_add]
                      rw [← Nat.add_mul, ← Nat.add_mul]
                      exact Nat.le_refl _
                  · exact (den_fail he).elim
                · exact (den_fail he).elim
              · exact (den_fail he).elim
          · exact (den_fail he).elim
        · exact (den_fail he).elim
      · exact (den_fail he).elim
    · exact (den_fail he).elim
  · exact (den_fail he).elim
end
end Go.Ab

/-
  Every operation does what the evaluator tells.
-/
namespace Go.Ab
open Go.RowKit

def CallsOk (P : Program) (call : CallF) : Prop :=
  ∀ (β : Bt) (w : World) (base : Nat) (h : Heap) (f : Nat) (as : List AV) (args : Array Value) (nm : Nat) (r : AV × Heap), Rep β h w base → base ≤ w.heap.size → VReps β as args.toList → (call f as h nm).den = some r →
    CallOr P f args w (Post β w base r.1 r.2)

section
variable {P : Program} {Γ : Ctx} {β : Bt} {h : Heap} {w : World} {base : Nat} {a : Act}

theorem Sub.refl' (h : Heap) : Sub h h := fun _ _ h => h

theorem addNew_den {h : Heap} {x r : AV × Heap} (he : (addNew h x).den = some r) : r = (x.1, h ++ x.2) ∧ Dist x.2 ∧ ∀ n b, hget x.2 n = some b → hget h n = none := by
  unfold addNew at he
  split at he
  · rename_i h0
    have := den_ret he
    subst this
    refine ⟨by rw [h0, List.append_nil], by rw [h0]; exact trivial, fun n b hn => by rw [h0] at hn; cases hn⟩
  · generalize hf : fresh h x.2 = ok at he
    cases ok with
    | false => exact (den_fail he).elim
    | true =>
      simp only [cond_true] at he
      have := den_ret he
      subst this
      obtain ⟨h1, h2⟩ := fresh_spec h _ hf
      exact ⟨rfl, h2, h1⟩

theorem post_of_add {x r : AV × Heap} (hr : Rep β h w base) (hb : base ≤ w.heap.size) (he : (addNew h x).den = some r) {u : Value} {w' : World} (hp : AddPost β w x.1 x.2 u w') : Post β w base r.1 r.2 u w' := by
  obtain ⟨rfl, _, _⟩ := addNew_den he
  exact add_post hr hb hp

theorem evOp_sound {call : CallF} (hΓ : CtxOk P Γ) (hcall : CallsOk P call) (hr : Rep β h w base) (hb : base ≤ w.heap.size) {tm : List AV} (ht : VReps β tm a.tmps.toList) (nm : Nat) (o : Oper) (ho : operOk o = true) (r : AV × Heap)
    (he : (evOp Γ call tm h nm o).den = some r) : OpRes P o a w (Post β w base r.1 r.2) := by
  unfold evOp at he
  split at he
  · obtain ⟨x, h1, h2⟩ := den_bind_some he
    obtain ⟨_, hd, hn⟩ := addNew_den h2
    exact (evOpA_sound hΓ (Sub.refl' h) hr ht nm o ho x h1 hd (fun n b hg => hr.dom n (hn n b hg))).mono fun u w' hp => post_of_add hr hb h2 hp
  · split at he
    · rename_i t p x hop
      have ho' : opndOk p = true ∧ opndOk x = true := by simpa [operOk, hop, Op.operands] using ho
      obtain ⟨q, e1, e2⟩ := den_bind_some he
      obtain ⟨hq, hd, hn⟩ := addNew_den e1
      have hp := nilsOf_post (w := w) t (freeName h (opName nm o)) (opv_rep ht x ho'.2) _ rfl (hd.fresh fun n b hg => hr.dom n (hn n b hg))
      obtain ⟨β1, hle, hr1, hv1, hbel⟩ := post_of_add hr hb e1 hp
      obtain ⟨h', k1, k2⟩ := den_bind_some e2
      have := den_ret k2
      subst this
      obtain ⟨w', h3, h4, h5⟩ := storeA_run (P := P) hΓ.tys hr1 t _ _ _ _ ((opv_rep ht p ho'.1).mono hle) hv1 h' k1
      unfold OpRes execOp
      simp only [hop, Sem.run_bind, h3, Result.andThen_ok, Sem.run_pure]
      exact ⟨β1, hle, h4, .tup _ _ .nil, h5⟩
    · exact (den_fail he).elim
  · rename_i hk
    split at he
    · rename_i c hop
      split at he
      · rename_i s x hargs
        have hbi : c.callee = .builtin .append := by
          unfold kindOf at hk
          rw [hop] at hk
          dsimp only at hk
          split at hk
          · assumption
          · split at hk
            · split at hk <;> cases hk
            · cases hk
          · cases hk
        have hops : c.args.toList.all opndOk = true := by
          have : c.operands.toList.all opndOk = true := by unfold operOk at ho; rw [hop] at ho; exact ho
          simpa [Call.operands, hbi] using this
        rw [hargs] at hops
        simp only [List.all_cons, List.all_nil, Bool.and_true, Bool.and_eq_true] at hops
        obtain ⟨u, w', h3, h4⟩ := appendA_run (P := P) hΓ.tys hr hb (opName nm o) o.type c.argTypes _ _ _ _ (opv_rep ht s hops.1) (opv_rep ht x hops.2) r he
        have hex : c.args.map a.eval = #[a.eval s, a.eval x] := by
          apply Array.ext'
          simp [hargs]
        refine opRes_value (u := u) (w' := w') ?_ h4
        simp only [execOp, hop, resolve, hbi, Sem.run_bind, Sem.run_pure, Result.andThen_ok, invoke, hex]
        unfold builtin
        simp only [Sem.run_bind, h3, Result.andThen_ok, Sem.run_pure]
      · exact (den_fail he).elim
    · exact (den_fail he).elim
  · split at he
    · rename_i c hop
      split at he
      · rename_i f hcl
        have hops : opndOk f = true ∧ c.args.toList.all opndOk = true := by
          have : c.operands.toList.all opndOk = true := by unfold operOk at ho; rw [hop] at ho; exact ho
          simpa [Call.operands, hcl] using this
        have hfv := opv_rep ht f hops.1
        have hav := opvs_rep ht c.args.toList hops.2
        generalize hfa : opv tm f = fa at he hfv
        generalize hfu : a.eval f = fu at hfv
        split at he
        · rename_i g as has
          unfold callee at has
          split at has
          · cases has
            cases hfv with
            | fn _ p q p' q' h1 h2 =>
            have hall : ∀ pp qq, VReps β pp p'.toList → VReps β qq q'.toList → VReps β ((pp ++ c.args.toList.map (opv tm)) ++ qq) ((p' ++ c.args.map a.eval) ++ q').toList := by
              intro pp qq h1 h2
              simp only [Array.toList_append, Array.toList_map]
              exact (h1.append hav).append h2
            have := hcall β w base h _ _ _ _ r hr hb (hall _ _ h1 h2) he
            have hex : (execOp a.eval o).run P w = (callFunc g ((p' ++ c.args.map a.eval) ++ q')).run P w := by
              simp [execOp, hop, resolve, hcl, hfu, Deferred.ofValue, invoke]
            unfold OpRes
            rw [hex]
            unfold CallOr at this
            generalize (callFunc g ((p' ++ c.args.map a.eval) ++ q')).run P w = res at this ⊢
            cases res with
            | halt x w' => exact this.elim
            | ok n w' =>
              cases n
              case value u => exact this
              case enter f args => exact this
              all_goals exact this.elim
          · cases has
        · exact (den_fail he).elim
      · exact (den_fail he).elim
    · exact (den_fail he).elim
end
end Go.Ab

/-
  Operations that turn one block, told from a part of the heap.
-/
namespace Go.Ab
open Go.RowKit

theorem hget_hdel (n : Nat) : ∀ (h : Heap) (k : Nat), hget (hdel n h) k = if k = n then none else hget h k
  | [], k => by unfold hdel hget; simp
  | (m, b) :: r, k => by
    unfold hdel
    cases hm : Nat.beq m n with
    | true =>
      have := Nat.eq_of_beq_eq_true hm
      subst this
      rw [cond_true, hget_hdel m r k]
      by_cases e : k = m
      · rw [if_pos e, if_pos e]
      · rw [if_neg e, if_neg e, hget_cons_ne _ _ (Ne.symm e)]
    | false =>
      rw [cond_false]
      by_cases e : m = k
      · subst e
        have hne : ¬ m = n := fun e => by subst e; rw [Nat.beq_refl] at hm; cases hm
        rw [hget_cons_self, if_neg hne, hget_cons_self]
      · rw [hget_cons_ne _ _ e, hget_hdel n r k]
        by_cases e2 : k = n
        · rw [if_pos e2, if_pos e2]
        · rw [if_neg e2, if_neg e2, hget_cons_ne _ _ e]

theorem isM_self (σ n : Nat) : isM (some (σ, n)) σ = true := Nat.beq_refl σ

section
variable {P : Program} {Γ : Ctx}

def storeCs (ti : TyI) (v : AV) : Option (List AV) := match v with
  | .agg l => if ti.isAgg = true ∧ l.length = ti.size ∧ l.all cellB = true then some l else none
  | .top | .tup _ | .arv _ _ | .nils _ => none
  | v => if ti.isAgg = true ∨ ti.size ≠ 1 then none else some [v]
def storeB (h : Heap) (n i c : Nat) (cs : Option (List AV)) (ob : Option Blk) : T Heap :=
  match cs, ob with
  | some cs, some (.vals true l) => if c = 0 ∧ i + cs.length ≤ l.length then .ret (hset h n (.vals true (splice l i cs))) else .fail
  | some cs, some (.arr true κ l) => if κ.size < cs.length then
      (if i = 0 ∧ c = 0 ∧ cs.length = l.length * κ.size then
        match chunks κ l.length cs with
        | some l' => .ret (hset h n (.arr true κ l'))
        | none => .fail
      else .fail)
    else match κ.upd (l.getD i κ.dflt) c cs with
    | some y => if c + cs.length ≤ κ.size then .ret (hset h n (.arr true κ (l.set i y))) else .fail
    | none => .fail
  | _, _ => .fail
theorem storeA_eq (h : Heap) {t : Nat} {ti : TyI} (ht : Γ.ty t = some ti) (n i c : Nat) (v : AV) : storeA Γ h t (.ptr n i c) v = storeB h n i c (storeCs ti v) (hget h n) := by
  unfold storeA
  rw [ht]
  rfl
theorem store_local {g g' : Heap} {t n i c : Nat} {v : AV} (he : (storeA Γ g t (.ptr n i c) v).den = some g') :
    ∃ b b', hget g n = some b ∧ b.live ∧ hget g' n = some b' ∧ ∀ H, hget H n = some b → (storeA Γ H t (.ptr n i c) v).den = some (hset H n b') := by
  cases ht : Γ.ty t with
  | none =>
    unfold storeA at he
    rw [ht] at he
    exact (den_fail he).elim
  | some ti =>
  have fin : ∀ b b', hget g n = some b → b.live → g' = hset g n b' → (∀ H : Heap, storeB H n i c (storeCs ti v) (some b) = .ret (hset H n b')) → ∃ b b', hget g n = some b ∧ b.live ∧ hget g' n = some b' ∧ ∀ H, hget H n = some b → (storeA Γ H t (.ptr n i c) v).den = some (hset H n b') := by
    intro b b' h1 hl h2 h3
    refine ⟨b, b', h1, hl, ?_, fun H hH => ?_⟩
    · rw [h2]; exact hget_hset_self g n b' b h1
    · rw [storeA_eq H ht, hH, h3]; rfl
  rw [storeA_eq g ht] at he
  generalize hob : hget g n = ob at he fin
  generalize storeCs ti v = cs at he fin
  unfold storeB at he
  split at he
  · rename_i cs l
    split at he
    · rename_i hc
      exact fin _ _ rfl trivial (den_ret he).symm fun H => by unfold storeB; simp only; rw [if_pos hc]
    · exact (den_fail he).elim
  · rename_i cs κ l
    split at he
    · rename_i hk
      split at he
      · rename_i hc
        split at he
        · rename_i l' hl'
          exact fin _ _ rfl trivial (den_ret he).symm fun H => by unfold storeB; simp only; rw [if_pos hk, if_pos hc, hl']
        · exact (den_fail he).elim
      · exact (den_fail he).elim
    · rename_i hk
      split at he
      · rename_i y hy
        split at he
        · rename_i hc
          exact fin _ _ rfl trivial (den_ret he).symm fun H => by unfold storeB; simp only; rw [if_neg hk, hy]; simp only; rw [if_pos hc]
        · exact (den_fail he).elim
      · exact (den_fail he).elim
  · exact (den_fail he).elim

theorem append_local {g : Heap} {nm : Nat} {ts : List Nat} {n off len : Nat} {x : AV} {r : AV × Heap} (he : (appendA Γ g nm ts (.slc n off len) x).den = some r) :
    ∃ b b', hget g n = some b ∧ b.live ∧ hget r.2 nm = some b' ∧ n ≠ nm ∧ ∀ H, Sub g H → hget H nm = none → (appendA Γ H nm ts (.slc n off len) x).den = some (r.1, hset H n .dead ++ [(nm, b')]) := by
  unfold appendA at he
  split at he
  · rename_i st xt more
    split at he
    · rename_i e _ _ _ _ hst
      split at he
      · rename_i te tx hte htx
        split at he
        · rename_i κ hκ
          split at he
          · rename_i hc
            generalize hfr : (!(hget g nm).isNone) = fr at he
            cases fr with
            | true => exact (den_fail he).elim
            | false =>
            have hnm : hget g nm = none := by
              cases hg : hget g nm with
              | none => rfl
              | some c => rw [hg] at hfr; cases hfr
            simp only [cond_false] at he
            split at he
            · exact (den_fail he).elim
            · rename_i new hnew
              split at he
              · rename_i κ' l hn
                split at he
                · rename_i e'
                  subst e'
                  obtain ⟨hm, he⟩ := den_ifb he
                  have := den_ret he
                  subst this
                  have hne : n ≠ nm := fun e => by subst e; rw [hn] at hnm; cases hnm
                  refine ⟨_, .arr true κ' (sub l off len ++ new), hn, trivial, ?_, hne, fun H hH hHn => ?_⟩
                  · rw [hget_append, hget_hset_ne _ _ hne, hnm]
                    exact hget_cons_self _ _ _
                  · unfold appendA
                    simp only [hst, hte, htx, hκ, if_pos hc, hHn, newOf_sub hH hnew, Option.isNone_none, Bool.not_true, cond_false, hH _ _ hn, dite_true]
                    simp only [T.ifb, T.den, hm, cond_true]
                · exact (den_fail he).elim
              · exact (den_fail he).elim
          · exact (den_fail he).elim
        · exact (den_fail he).elim
      · exact (den_fail he).elim
    · exact (den_fail he).elim
  · exact (den_fail he).elim

theorem evMod_sound {β : Bt} {g H : Heap} {w : World} {base : Nat} {a : Act} (hΓ : CtxOk P Γ) (hs : Sub g H) (hr : Rep β H w base) (hb : base ≤ w.heap.size) {tm : List AV} (ht : VReps β tm a.tmps.toList) (nm : Nat) (o : Oper) (ho : operOk o = true) (n0 : Nat) (r : AV × Heap)
    (he : (evMod Γ tm g nm o n0).den = some r) (hn : ∀ k b, hget r.2 k = some b → k ≠ n0 → hget H k = none) :
    OpRes P o a w fun u w' => ∃ β' H', β.le β' ∧ Rep β' H' w' base ∧ VRep β' r.1 u ∧ Below base w w' ∧ ∀ k b, hget H' k = some b ↔ (k ≠ n0 ∧ hget H k = some b) ∨ hget r.2 k = some b := by
  unfold evMod at he
  split at he
  · rename_i t p x hop
    split at he
    · rename_i m i c hp
      have ho' : opndOk p = true ∧ opndOk x = true := by simpa [operOk, hop, Op.operands] using ho
      have hpv := opv_rep ht p ho'.1
      rw [hp] at hpv
      cases hm : Nat.beq m n0 with
      | false => rw [hm] at he; exact (den_fail he).elim
      | true =>
        have hm' := Nat.eq_of_beq_eq_true hm
        subst hm'
        rw [hm, cond_true] at he
        obtain ⟨g', e1, e2⟩ := den_bind_some he
        obtain ⟨b, b', k1, _, k2, k3⟩ := store_local e1
        rw [k2] at e2
        have := den_ret e2
        subst this
        obtain ⟨w', h3, h4, h5⟩ := storeA_run (P := P) hΓ.tys hr t _ _ _ _ hpv (opv_rep ht x ho'.2) _ (k3 H (hs _ _ k1))
        unfold OpRes execOp
        simp only [hop, Sem.run_bind, h3, Result.andThen_ok, Sem.run_pure]
        refine ⟨β, _, β.le_refl, h4, .tup _ _ .nil, h5, fun k c => ?_⟩
        by_cases e : m = k
        · subst e
          rw [hget_hset_self H m b' b (hs _ _ k1), hget_cons_self]
          exact ⟨fun h => .inr h, fun h => h.elim (fun h => absurd rfl h.1) id⟩
        · rw [hget_hset_ne H b' e, hget_cons_ne _ _ e]
          exact ⟨fun h => .inl ⟨Ne.symm e, h⟩, fun h => h.elim (fun h => h.2) (fun h => by cases h)⟩
    · exact (den_fail he).elim
  · rename_i c hop
    split at he
    · rename_i hbi
      split at he
      · rename_i s x hargs
        split at he
        · rename_i m off len hsv
          cases hm : Nat.beq m n0 with
          | false => rw [hm] at he; exact (den_fail he).elim
          | true =>
            have hm' := Nat.eq_of_beq_eq_true hm
            subst hm'
            rw [hm, cond_true] at he
            have hops : c.args.toList.all opndOk = true := by
              have : c.operands.toList.all opndOk = true := by unfold operOk at ho; rw [hop] at ho; exact ho
              simpa [Call.operands, hbi] using this
            rw [hargs] at hops
            simp only [List.all_cons, List.all_nil, Bool.and_true, Bool.and_eq_true] at hops
            have hsv' := opv_rep ht s hops.1
            rw [hsv] at hsv'
            obtain ⟨q, e1, e2⟩ := den_bind_some he
            obtain ⟨b, b', k1, _, k2, kne, k3⟩ := append_local e1
            rw [k2] at e2
            have := den_ret e2
            subst this
            have hHn : hget H (opName nm o) = none := hn (opName nm o) b' (by rw [hget_cons_ne _ _ kne, hget_cons_self]) (Ne.symm kne)
            obtain ⟨u, w', h3, β', j1, j2, j3, j4⟩ := appendA_run (P := P) hΓ.tys hr hb (opName nm o) o.type c.argTypes _ _ _ _ hsv' (opv_rep ht x hops.2) _ (k3 H hs hHn)
            have hex : c.args.map a.eval = #[a.eval s, a.eval x] := by
              apply Array.ext'
              simp [hargs]
            refine opRes_value (u := u) (w' := w') ?_ ⟨β', _, j1, j2, j3, j4, fun k c' => ?_⟩
            · simp only [execOp, hop, resolve, hbi, Sem.run_bind, Sem.run_pure, Result.andThen_ok, invoke, hex]
              unfold builtin
              simp only [Sem.run_bind, h3, Result.andThen_ok, Sem.run_pure]
            · simp only
              rw [hget_append]
              by_cases e : m = k
              · subst e
                rw [hget_hset_self H m .dead b (hs _ _ k1), hget_cons_self]
                exact ⟨fun h => .inr h, fun h => h.elim (fun h => absurd rfl h.1) id⟩
              · rw [hget_hset_ne H .dead e, hget_cons_ne _ _ e]
                cases hk : hget H k with
                | some d =>
                  have hne : ¬ opName nm o = k := fun e => by subst e; rw [hHn] at hk; cases hk
                  rw [hget_cons_ne _ _ hne]
                  exact ⟨fun h => .inl ⟨Ne.symm e, h⟩, fun h => h.elim (fun h => h.2) (fun h => by cases h)⟩
                | none =>
                  exact ⟨fun h => .inr h, fun h => h.elim (fun h => by cases h.2) id⟩
        · exact (den_fail he).elim
      · exact (den_fail he).elim
    · exact (den_fail he).elim
  · exact (den_fail he).elim
theorem evMod_has {tm : List AV} {h : Heap} {nm : Nat} {o : Oper} {n : Nat} {r : AV × Heap} (he : (evMod Γ tm h nm o n).den = some r) : ∃ b, hget r.2 n = some b := by
  unfold evMod at he
  split at he
  · split at he
    · rename_i m i c hp
      cases hm : Nat.beq m n with
      | false => rw [hm] at he; exact (den_fail he).elim
      | true =>
        rw [hm, cond_true] at he
        obtain ⟨g', e1, e2⟩ := den_bind_some he
        split at e2
        · have := den_ret e2
          subst this
          exact ⟨_, hget_cons_self _ _ _⟩
        · exact (den_fail e2).elim
    · exact (den_fail he).elim
  · split at he
    · split at he
      · split at he
        · rename_i m off len hsv
          cases hm : Nat.beq m n with
          | false => rw [hm] at he; exact (den_fail he).elim
          | true =>
            rw [hm, cond_true] at he
            obtain ⟨q, e1, e2⟩ := den_bind_some he
            split at e2
            · have := den_ret e2
              subst this
              exact ⟨_, hget_cons_self _ _ _⟩
            · exact (den_fail e2).elim
        · exact (den_fail he).elim
      · exact (den_fail he).elim
    · exact (den_fail he).elim
  · exact (den_fail he).elim
theorem del_keep {m : Option (Nat × Nat)} {h : Heap} {n : Nat} {b : Blk} (hb : hget h n = some b) (hm : ∀ σ, m ≠ some (σ, n)) : hget (delH m h) n = some b := by
  cases m with
  | none => exact hb
  | some q =>
    obtain ⟨σ, k⟩ := q
    show hget (hdel k h) n = some b
    rw [hget_hdel, if_neg (fun e => hm σ (by rw [e]))]
    exact hb
theorem del_some {m : Option (Nat × Nat)} {h : Heap} {n : Nat} {b : Blk} (hb : hget (delH m h) n = some b) : hget h n = some b ∧ ∀ σ, m ≠ some (σ, n) := by
  cases m with
  | none => exact ⟨hb, fun σ e => by cases e⟩
  | some q =>
    obtain ⟨σ, k⟩ := q
    have hb : hget (hdel k h) n = some b := hb
    rw [hget_hdel] at hb
    split at hb
    · cases hb
    · rename_i hne
      exact ⟨hb, fun σ' e => by cases e; exact hne rfl⟩
end
end Go.Ab

/-
  Regions.
-/
namespace Go.Ab
open Go.RowKit

structure SR (β : Bt) (base : Nat) (s : St) (a : Act) (w : World) : Prop where
  tm : VReps β s.tm a.tmps.toList
  rep : Rep β s.hp w base
  base : base ≤ w.heap.size
  defers : a.defers = []

/-- Behind some code: the state is told, and nothing of others has turned. -/
def After (β : Bt) (w : World) (base : Nat) (s : St) (a : Act) (w' : World) : Prop := ∃ β', β.le β' ∧ SR β' base s a w' ∧ Below base w w'

theorem World.cell?_heap {w w' : World} (h : w'.heap = w.heap) (p : Addr) : w'.cell? p = w.cell? p := by simp [World.cell?, h]
theorem World.frozen?_heap {w w' : World} (h : w'.heap = w.heap) (p : Addr) : w'.frozen? p = w.frozen? p := by simp [World.frozen?, h]

theorem Rep.heap_eq {β : Bt} {h : Heap} {w w' : World} {base : Nat} (hr : Rep β h w base) (hw : w'.heap = w.heap) : Rep β h w' base := by
  refine ⟨hr.dom, hr.loc, fun n b l hn hb hl => ?_, hr.sep⟩
  have hB := hr.blk n b l hn hb hl
  refine ⟨hB.own, hB.len, hB.es, fun j v hj => ?_, fun ho hs => ?_, hB.room, hB.other⟩
  · obtain ⟨u, h1, h2⟩ := hB.cells j v hj
    exact ⟨u, by rw [World.cell?_heap hw]; exact h1, h2⟩
  · obtain ⟨h1, h2, h3⟩ := hB.mine ho hs
    exact ⟨h1, by rw [hw]; exact h2, fun o h => by rw [World.frozen?_heap hw]; exact h3 o h⟩

theorem Rep.congr {β : Bt} {h h' : Heap} {w : World} {base : Nat} (hr : Rep β h w base) (hh : ∀ n, hget h' n = hget h n) : Rep β h' w base :=
  ⟨fun n hn => hr.dom n (by rw [← hh]; exact hn), fun n b hn => hr.loc n b (by rw [← hh]; exact hn), fun n b l hn => hr.blk n b l (by rw [← hh]; exact hn),
    fun n m b b' l l' hnm hn hm => hr.sep n m b b' l l' hnm (by rw [← hh]; exact hn) (by rw [← hh]; exact hm)⟩

theorem _root_.Go.RowKit.Below.size_le' {base : Nat} {w w' : World} (h : Below base w w') (hb : base ≤ w.heap.size) : base ≤ w'.heap.size := by
  have := h.size; omega

theorem put_rep {β : Bt} {tm : List AV} {a : Act} (ht : VReps β tm a.tmps.toList) (d : Option Nat) {v : AV} {u : Value} (hv : VRep β v u) : VReps β (setD tm d v) (a.put d u).tmps.toList := by
  cases d with
  | none => exact ht
  | some d =>
    show VReps β (tm.set d v) (a.tmps.setIfInBounds d u).toList
    rw [Array.toList_setIfInBounds]
    exact ht.set d hv

theorem put_defers (a : Act) (d : Option Nat) (u : Value) : (a.put d u).defers = a.defers := by cases d <;> rfl

theorem undef_rep (β : Bt) : VRep β (.tup []) undef := .tup _ _ .nil

/-- what a guard finds -/
inductive GRep : AV → Option Bool → Prop
  | bl (b : Bool) : GRep (.bl b) (some b)
  | bs (b : Bool) : GRep (.bs b) (some b)
  | tup : GRep (.tup []) none

theorem slotOf_dst {ops : Array Oper} {all : List Oper} (hall : all = ops.toList) (j : Nat) : slotOf all j = (ops[j]?).bind (·.dst) := by
  subst hall; unfold slotOf; rw [Array.getElem?_toList]

theorem guard_rep {β : Bt} {v : AV} {u : Value} (h : VRep β v u) : (∀ b, v = .bl b ∨ v = .bs b → u = .bool b) ∧ (v = .tup [] → u = .tuple #[]) := by
  refine ⟨fun b hb => ?_, fun hb => ?_⟩
  · rcases hb with rfl | rfl <;> cases h <;> rfl
  · subst hb
    cases h with
    | tup _ cs h => cases h' : cs.toList with
      | nil => have : cs = #[] := Array.ext' h'
               rw [this]
      | cons x r => rw [h'] at h; cases h

theorem yielded_of {ops : Array Oper} {a : Act} {g d : Nat} (hd : (ops[g]?).bind (·.dst) = some d) (hlt : d < a.tmps.size) : yielded ops a.tmps g = match a.tmps.getD d undef with | .bool b => some b | _ => none := by
  unfold yielded
  rw [hd]
  have h1 : a.tmps[d]? = some a.tmps[d] := Array.getElem?_eq_getElem hlt
  have h2 : a.tmps.getD d undef = a.tmps[d] := by simp [Array.getD, hlt]
  rw [h2]
  simp only [Option.bind_some, h1]
  cases a.tmps[d] <;> rfl

theorem yielded_out {ops : Array Oper} {a : Act} {g d : Nat} (hd : (ops[g]?).bind (·.dst) = some d) (hlt : ¬ d < a.tmps.size) : yielded ops a.tmps g = none := by
  unfold yielded
  rw [hd]
  simp only [Option.bind_some]
  rw [Array.getElem?_eq_none (by omega)]

/-- the slot of a guard, as it is told -/
theorem slot_rep {β : Bt} {tm : List AV} {a : Act} (ht : VReps β tm a.tmps.toList) (d : Nat) : VRep β (tm.getD d .top) (a.tmps.getD d undef) := by
  have := ht.getD d undef
  simpa [Array.getD_eq_getD_getElem?] using this

theorem bool_slot {β : Bt} {tm : List AV} {a : Act} (ht : VReps β tm a.tmps.toList) {ops : Array Oper} {g d : Nat} (hd : (ops[g]?).bind (·.dst) = some d) {b : Bool} (hv : tm.getD d .top = .bl b ∨ tm.getD d .top = .bs b) : yielded ops a.tmps g = some b := by
  have hs := slot_rep ht d
  have hu := (guard_rep hs).1 b hv
  have hlt : d < a.tmps.size := by
    have hl := ht.length
    by_cases h : d < a.tmps.size
    · exact h
    · have : tm.getD d .top = .top := by rw [List.getD_eq_getElem?_getD, List.getElem?_eq_none (by rw [hl]; simpa using h)]; rfl
      rw [this] at hv; rcases hv with hv | hv <;> cases hv
  rw [yielded_of hd hlt, hu]

theorem tup_slot {β : Bt} {tm : List AV} {a : Act} (ht : VReps β tm a.tmps.toList) {ops : Array Oper} {g d : Nat} (hd : (ops[g]?).bind (·.dst) = some d) (hv : tm.getD d .top = .tup []) : yielded ops a.tmps g = none := by
  have hs := slot_rep ht d
  have hu := (guard_rep hs).2 hv
  by_cases hlt : d < a.tmps.size
  · rw [yielded_of hd hlt, hu]
  · exact yielded_out hd hlt

theorem set_bl {β : Bt} {tm : List AV} {us : List Value} (ht : VReps β tm us) {d : Nat} {b : Bool} (hv : tm.getD d .top = .bs b) : VReps β (tm.set d (.bl b)) us := by
  induction tm generalizing d us with
  | nil => simpa using ht
  | cons v r ih =>
    cases ht with
    | cons _ u _ s h1 h2 =>
    cases d with
    | zero =>
      have : v = .bs b := by simpa using hv
      subst this
      cases h1
      exact .cons _ _ _ _ (.bl b) h2
    | succ d => exact .cons _ _ _ _ h1 (ih h2 (by simpa using hv))

section
variable {P : Program} {Γ : Ctx} {base : Nat} {ops : Array Oper} {Q : Exit → Act → World → Prop}

/-- One operation of a region and those behind it. -/
theorem evOps_step {call : CallF} (hΓ : CtxOk P Γ) (hcall : CallsOk P call) {β : Bt} {s : St} {a : Act} {w : World} (hs : SR β base s a w) (nm : Nat) {all : List Oper} (hall : all = ops.toList) {o : Oper} (ho : operOk o = true) {rest : List Oper} {s' : St}
    (he : (evOps Γ call nm all (o :: rest) s).den = some s') {K : Act → World → Prop}
    (hK : ∀ β' s1 a1 w1, β.le β' → SR β' base s1 a1 w1 → Below base w w1 → (evOps Γ call nm all rest s1).den = some s' → K a1 w1) :
    if Region.wanted o (yielded ops a.tmps) then o.wp P a w K Q ∨ (o.asks P a w ∧ LetsOut Q) else K (a.put o.dst undef) w := by
  have run : ∀ tm, VReps β tm a.tmps.toList → Region.wanted o (yielded ops a.tmps) = true → ((evOp Γ call tm s.hp nm o).bind fun r => evOps Γ call nm all rest ⟨setD tm o.dst r.1, r.2⟩).den = some s' →
      if Region.wanted o (yielded ops a.tmps) then o.wp P a w K Q ∨ (o.asks P a w ∧ LetsOut Q) else K (a.put o.dst undef) w := by
    intro tm ht hw he
    rw [if_pos hw]
    obtain ⟨r, h1, h2⟩ := den_bind_some he
    refine .inl ((evOp_sound (a := a) hΓ hcall hs.rep hs.base ht nm o ho r h1).wp fun u w' ⟨β', hle, hr', hv, hbel⟩ => ?_)
    exact hK β' _ _ _ hle ⟨put_rep (ht.mono hle) o.dst hv, hr', hbel.size_le' hs.base, by rw [put_defers]; exact hs.defers⟩ hbel h2
  have skip : ∀ tm, VReps β tm a.tmps.toList → Region.wanted o (yielded ops a.tmps) = false → (evOps Γ call nm all rest ⟨setD tm o.dst (.tup []), s.hp⟩).den = some s' →
      if Region.wanted o (yielded ops a.tmps) then o.wp P a w K Q ∨ (o.asks P a w ∧ LetsOut Q) else K (a.put o.dst undef) w := by
    intro tm ht hw he
    rw [hw, if_neg Bool.false_ne_true]
    exact hK β ⟨setD tm o.dst (.tup []), s.hp⟩ _ _ β.le_refl ⟨put_rep ht o.dst (undef_rep β), hs.rep, hs.base, by rw [put_defers]; exact hs.defers⟩ (Below.refl _ _) he
  unfold evOps at he
  dsimp only at he
  cases hg : o.guard with
  | none =>
    rw [hg] at he
    exact run s.tm hs.tm (by unfold Region.wanted; rw [hg]) he
  | some gw =>
    obtain ⟨g, want⟩ := gw
    rw [hg] at he
    dsimp only at he
    have hwant : ∀ y, yielded ops a.tmps g = y → Region.wanted o (yielded ops a.tmps) = (y == some want) := by
      intro y hy; unfold Region.wanted; rw [hg]; simp only [hy]
    have hbb : ∀ b : Bool, (some b == some want) = (b == want) := by intro b; cases b <;> cases want <;> rfl
    split at he
    · exact (den_fail he).elim
    · rename_i d hd
      rw [slotOf_dst hall] at hd
      split at he
      · rename_i b hb
        have hy := bool_slot hs.tm hd (.inl hb)
        have hw := hwant _ hy
        rw [hbb] at hw
        cases hbw : (b == want) with
        | true => rw [hbw] at he hw; exact run _ hs.tm hw he
        | false => rw [hbw] at he hw; exact skip _ hs.tm hw he
      · rename_i b hb
        have hy := bool_slot hs.tm hd (.inr hb)
        have hw := hwant _ hy
        rw [hbb] at hw
        have hset := set_bl hs.tm hb
        rw [T.den] at he
        cases b with
        | true =>
          simp only [cond_true] at he
          cases want with
          | true => exact run _ hset hw he
          | false => exact skip _ hset hw he
        | false =>
          simp only [cond_false] at he
          cases want with
          | true => exact skip _ hset hw he
          | false => exact run _ hset hw he
      · rename_i hb
        have hy := tup_slot hs.tm hd hb
        exact skip _ hs.tm (hwant _ hy) he
      · exact (den_fail he).elim

theorem SR.step {β β1 : Bt} {w w1 w2 : World} {s : St} {a : Act} (h1 : β.le β1) (h2 : Below base w w1) (h : After β1 w1 base s a w2) : After β w base s a w2 := by
  obtain ⟨β', g1, g2, g3⟩ := h
  exact ⟨β', h1.trans g1, g2, h2.trans g3⟩

theorem evOps_sound {call : CallF} (hΓ : CtxOk P Γ) (hcall : CallsOk P call) (nm : Nat) {all : List Oper} (hall : all = ops.toList) : ∀ (rest : List Oper), rest.all operOk = true → ∀ (β : Bt) (s : St) (a : Act) (w : World), SR β base s a w → ∀ s',
    (evOps Γ call nm all rest s).den = some s' → (∀ a' w', After β w base s' a' w' → Q .normal a' w') → wpList P ops Q rest a w
  | [], _, β, s, a, w, hs, s', he, hQ => by
    have := den_ret he
    subst this
    exact hQ a w ⟨β, β.le_refl, hs, Below.refl _ _⟩
  | o :: rest, ho, β, s, a, w, hs, s', he, hQ => by
    simp only [List.all_cons, Bool.and_eq_true] at ho
    exact evOps_step hΓ hcall hs nm hall ho.1 he fun β1 s1 a1 w1 h1 h2 h3 h4 => evOps_sound hΓ hcall nm hall rest ho.2 β1 s1 a1 w1 h2 s' h4 fun a' w' h5 => hQ a' w' (SR.step h1 h3 h5)
end
end Go.Ab
