/-
  Every operation that turns no memory does what the evaluator tells.
-/
import Derived.Test.YtgmjoehnkannkaaAbLay
namespace Go.Ab
open Go.RowKit

structure CtxOk (P : Program) (Γ : Ctx) : Prop where
  tys : TysOk P Γ
  fns : ∀ f fn, Γ.fns f = some fn → P.funcs[f]? = some fn
  spec : ∀ f s, Γ.spec f = some s → SpecOk' P f s
  mixed : P.follows .mixedOrders = true

section
variable {P : Program} {Γ : Ctx} {β : Bt} {g h : Heap} {w : World} {base : Nat} {a : Act}

theorem opRes_runs {o : Oper} {s : Sem Value} {v : AV} (he : execOp a.eval o = (do pure (.value (← s)))) (hr : RunsTo P s w (VRep β v)) : OpRes P o a w (AddPost β w v []) := by
  obtain ⟨u, n, h1, h2⟩ := hr
  refine opRes_value (w' := { w with drawn := n }) (u := u) ?_ (.none (below_drawn _ _ _) h2)
  rw [he, Sem.run_bind, h1]; rfl

theorem opRes_post {o : Oper} {s : Sem Value} {r : AV × Heap} (he : execOp a.eval o = (do pure (.value (← s)))) (hr : ∃ u w', s.run P w = .ok u w' ∧ AddPost β w r.1 r.2 u w') : OpRes P o a w (AddPost β w r.1 r.2) := by
  obtain ⟨u, w', h1, h2⟩ := hr
  refine opRes_value (w' := w') (u := u) ?_ h2
  rw [he, Sem.run_bind, h1]; rfl

theorem opRes_val {o : Oper} {v : AV} {u : Value} (he : (execOp a.eval o).run P w = .ok (.value u) w) (hv : VRep β v u) : OpRes P o a w (AddPost β w v []) :=
  opRes_value he (.same hv)

theorem pure1_den {t : T AV} {r : AV × Heap} (h : (pure1 t).den = some r) : t.den = some r.1 ∧ r.2 = [] := by
  unfold pure1 at h
  obtain ⟨v, h1, h2⟩ := den_bind_some h
  have := den_ret h2
  subst this
  exact ⟨h1, rfl⟩

theorem orep {tm : List AV} (ht : VReps β tm a.tmps.toList) (x : Option Operand) (hx : x.all opndOk = true) : ORep β (x.map (opv tm)) (x.map a.eval) := by
  cases x with
  | none => exact .none
  | some x => exact .some _ _ (opv_rep ht x (by simpa using hx))

theorem opvs_rep {tm : List AV} (ht : VReps β tm a.tmps.toList) : ∀ (l : List Operand), l.all opndOk = true → VReps β (l.map (opv tm)) (l.map a.eval)
  | [], _ => .nil
  | x :: r, h => by
    simp only [List.all_cons, Bool.and_eq_true] at h
    exact .cons _ _ _ _ (opv_rep ht x h.1) (opvs_rep ht r h.2)

theorem parts_rep {tm : List AV} (ht : VReps β tm a.tmps.toList) (ps : Array (Nat × Operand)) (hp : (ps.toList.map (·.2)).all opndOk = true) :
    (ps.toList.map fun p => (p.1, opv tm p.2)).length = (ps.map fun (i, x) => (i, a.eval x)).size ∧
    ∀ (j : Nat) (p : Nat × AV) (q : Nat × Value), (ps.toList.map fun p => (p.1, opv tm p.2))[j]? = some p → (ps.map fun (i, x) => (i, a.eval x))[j]? = some q → p.1 = q.1 ∧ VRep β p.2 q.2 := by
  refine ⟨by simp, fun j p q h1 h2 => ?_⟩
  simp only [List.getElem?_map, Array.getElem?_map, Array.getElem?_toList] at h1 h2
  cases hj : ps[j]? with
  | none => rw [hj] at h1; cases h1
  | some x =>
    rw [hj] at h1 h2
    simp only [Option.map_some, Option.some.injEq] at h1 h2
    subst h1 h2
    refine ⟨rfl, opv_rep ht _ ?_⟩
    have hm : x ∈ ps.toList := by simpa using Array.mem_of_getElem? hj
    exact List.all_eq_true.1 hp x.2 (List.mem_map.2 ⟨x, hm, rfl⟩)

theorem nilsOf_post (t nm : Nat) {v : AV} {u : Value} (hv : VRep β v u) (r : AV × Heap) (hr : nilsOf Γ t nm v = r) (hf : FreshIn β r.2) : AddPost β w r.1 r.2 u w := by
  have ph : ∀ (κ : EK) (b : Option Addr), u = .slice b 0 0 → r = (.slc nm 0 0, [(nm, .arr true κ [])]) → AddPost β w r.1 r.2 u w := by
    intro κ b hu hr
    subst hu hr
    have hn := hf.names
    let β' : Bt := extB β [] nm (phLoc (.arr true κ []))
    refine ⟨β', le_extB hn, Below.refl _ _, .slc _ _ _ (phLoc (.arr true κ [])) _ _ (by show extB _ _ _ _ _ = _; unfold extB; rw [if_pos rfl]) ⟨Nat.le_refl _, .inl ⟨rfl, fun _ => rfl⟩⟩, fun n hn => ?_, ⟨fun n b' hn => ?_, fun n m b1 b2 l1 l2 hnm h1 h2 h3 h4 h5 h6 => ?_⟩⟩
    · show extB _ _ _ _ _ = _
      unfold extB
      by_cases e : n = nm
      · subst e; rw [hget_cons_self] at hn; cases hn
      · rw [if_neg e]; rfl
    · by_cases e : n = nm
      · subst e
        rw [hget_cons_self] at hn
        cases hn
        exact ⟨trivial, rfl, phLoc (.arr true κ []), by show extB _ _ _ _ _ = _; unfold extB; rw [if_pos rfl], ⟨rfl, rfl, rfl, fun j x hj => by simp [Blk.cl] at hj, fun _ h => by simp [phLoc] at h, fun _ => by simp [phLoc, Blk.len], fun h => by cases h⟩⟩
      · rw [hget_cons_ne _ _ (Ne.symm e)] at hn; simp [hget] at hn
    · have : n = nm := by
        by_cases e : n = nm
        · exact e
        · rw [hget_cons_ne _ _ (Ne.symm e)] at h1; simp [hget] at h1
      have : m = nm := by
        by_cases e : m = nm
        · exact e
        · rw [hget_cons_ne _ _ (Ne.symm e)] at h2; simp [hget] at h2
      omega
  unfold nilsOf at hr
  split at hr
  · cases hv with
    | nils _ b =>
    split at hr
    · split at hr
      · exact ph _ b rfl hr.symm
      · subst hr; exact .same (.nils _ _)
    · subst hr; exact .same (.nils _ _)
  · cases hv with
    | nils _ b => exact ph _ b rfl hr.symm
  · subst hr; exact .same hv

theorem mergeV_rep {b : Bool} {x y : AV} {u v : Value} (hx : VRep β x u) (hy : VRep β y v) : VRep β (mergeV b x y) (if b then u else v) := by
  have hbif : ∀ (p q : Bool), (if b then Value.bool p else Value.bool q) = Value.bool (bif b then p else q) := by intro p q; cases b <;> rfl
  unfold mergeV
  split
  · cases hx; cases hy; rw [hbif]; exact .bs _
  · cases hx; cases hy; rw [hbif]; exact .bs _
  · cases hx; cases hy; rw [hbif]; exact .bs _
  · cases hx; cases hy; rw [hbif]; exact .bs _
  · cases hx; cases hy
    split
    · rename_i e; subst e
      cases b
      · exact .int _ _
      · exact .int _ _
    · exact .top _
  · cases hx with
    | flt _ _ _ h1 =>
    cases hy with
    | flt _ _ _ h2 =>
    split
    · rename_i e; subst e
      cases b
      · exact .flt _ _ _ h2
      · exact .flt _ _ _ h1
    · exact .top _
  · cases hx with
    | cpx _ _ _ _ _ h1 h1' =>
    cases hy with
    | cpx _ _ _ _ _ h2 h2' =>
    split
    · rename_i e; subst e
      cases b
      · exact .cpx _ _ _ _ _ h2 h2'
      · exact .cpx _ _ _ _ _ h1 h1'
    · exact .top _
  · cases hx; cases hy
    cases b
    · exact .str _
    · exact .str _
  · exact .top _

set_option maxHeartbeats 2000000 in
theorem evOpA_sound (hΓ : CtxOk P Γ) (hs : Sub g h) (hr : Rep β h w base) {tm : List AV} (ht : VReps β tm a.tmps.toList) (nm : Nat) (o : Oper) (ho : operOk o = true) (r : AV × Heap)
    (he : (evOpA Γ tm g nm o).den = some r) (hd : Dist r.2) (hβ : ∀ n b, hget r.2 n = some b → β n = none) : OpRes P o a w (AddPost β w r.1 r.2) := by
  have hf : FreshIn β r.2 := hd.fresh hβ
  obtain ⟨dst, op, type, pos, after, guard⟩ := o
  unfold operOk at ho
  cases op <;> simp only [evOpA, Op.operands] at he ho <;> first | exact (den_fail he).elim | skip
  case move x =>
    have := den_ret he
    exact opRes_value (u := a.eval x) rfl (nilsOf_post _ _ (opv_rep ht x (by simpa using ho)) r this hf)
  case assign x =>
    have := den_ret he
    exact opRes_value (u := a.eval x) rfl (nilsOf_post _ _ (opv_rep ht x (by simpa using ho)) r this hf)
  case pick c x y =>
    have ho' : opndOk c = true ∧ opndOk x = true ∧ opndOk y = true := by simpa using ho
    have hc := opv_rep ht c ho'.1
    have h1 := opv_rep ht x ho'.2.1
    have h2 := opv_rep ht y ho'.2.2
    have run : ∀ b, a.eval c = .bool b → (execOp a.eval ⟨dst, .pick c x y, type, pos, after, guard⟩).run P w = .ok (.value (if b then a.eval x else a.eval y)) w := by
      intro b hb
      simp [execOp, hb, asBool]
    generalize hcv : opv tm c = cv at he hc
    split at he
    · rw [← den_ret he]
      generalize hcu : a.eval c = cu at hc
      cases hc; exact opRes_val (run true hcu) h1
    · rw [← den_ret he]
      generalize hcu : a.eval c = cu at hc
      cases hc; exact opRes_val (run false hcu) h2
    · rw [← den_ret he]
      generalize hcu : a.eval c = cu at hc
      cases hc; exact opRes_val (run _ hcu) (mergeV_rep h1 h2)
    · exact (den_fail he).elim
  case alloc t =>
    split at he
    · rename_i ti hti
      obtain ⟨z, hz1, hz2, hz3⟩ := (hΓ.tys.ty _ _ hti).zero
      refine opRes_post (s := Instr.alloc t true (.tuple #[])) rfl ⟨.pointer (some ⟨w.heap.size, 0, none⟩), { w with heap := w.heap.push (.cells z.cells t) }, ?_, ?_⟩
      · simp [Instr.alloc, hz1, newVar, newRow]
      · refine newVarA_post (Γ := Γ) _ ti _ z.cells t ?_ r he hf
        cases ha : ti.isAgg with
        | true => exact .agg _ _ (hz2 β)
        | false =>
          simp only [ha, Bool.false_eq_true, if_false] at he ⊢
          split
          · rename_i z0 hz0
            have := hz2 β
            rw [hz0] at this he
            generalize hul : z.cells.toList = ul at this
            cases this with
            | cons _ u _ _ h1 h2 =>
            cases h2
            simp only at he
            split
            · rename_i hc
              refine .one _ _ (fun l e => ?_) (fun κ l e => ?_) h1
              · subst e; cases hc
              · subst e; cases hc
            · rename_i hc
              rw [if_neg hc] at he
              simp [newVarA, T.den] at he
          · rename_i hne
            exfalso
            split at he
            · rename_i z0 hz0; exact hne z0 hz0
            · simp [newVarA, T.den] at he
    · exact (den_fail he).elim
  case box t x =>
    split at he
    · rename_i ti hti
      have hx := opv_rep ht x (by simpa using ho)
      have hnt : opv tm x ≠ .top ∧ ∀ l, opv tm x ≠ .tup l := by
        constructor
        · intro e; rw [e] at he; simp [newVarA, T.den] at he
        · intro l e; rw [e] at he; simp [newVarA, T.den] at he
      refine opRes_post (s := Instr.box t (a.eval x)) rfl ⟨.pointer (some ⟨w.heap.size, 0, none⟩), { w with heap := w.heap.push (.cells (a.eval x).cells t) }, ?_, ?_⟩
      · simp [Instr.box, newVar, newRow]
      · exact newVarA_post (Γ := Γ) _ ti _ _ t (hx.cells hnt.1 hnt.2) r he hf
    · exact (den_fail he).elim
  case build t ps =>
    obtain ⟨h1, h2⟩ := pure1_den he
    obtain ⟨h3, h4⟩ := parts_rep ht ps (by simpa using ho)
    rw [h2]
    exact opRes_runs (s := Instr.build t (ps.map fun (i, x) => (i, a.eval x))) rfl (buildA_run hΓ.tys t _ _ h3 h4 r.1 h1)
  case buildSlice t n ps =>
    obtain ⟨h3, h4⟩ := parts_rep ht ps (by simpa using ho)
    exact opRes_post (s := Instr.buildSlice t n (ps.map fun (i, x) => (i, a.eval x))) rfl (buildSliceA_post hΓ.tys _ t n _ _ h3 h4 r he hf)
  case load t x =>
    obtain ⟨h1, h2⟩ := pure1_den he
    rw [h2]
    obtain ⟨ad, e, u, h3, h4⟩ := loadA_run (P := P) hΓ.tys hs hr t _ _ (opv_rep ht x (by simpa using ho)) r.1 h1
    refine opRes_runs (s := Instr.loadAt t (a.eval x)) rfl (RunsTo.of (u := u) ?_ h4)
    rw [e]; simp [Instr.loadAt, Instr.sureAddr, h3]
  case nilCheck x =>
    have hx := opv_rep ht x (by simpa using ho)
    generalize hv : opv tm x = v at he hx
    generalize hu : a.eval x = u at hx
    split at he
    · rw [← den_ret he]
      cases hx with
      | ptr n i c l h1 h2 h3 =>
      refine opRes_val (u := a.eval x) ?_ (by rw [hu]; exact .ptr _ _ _ _ h1 h2 h3)
      simp [execOp, hu]
    · rw [← den_ret he]
      cases hx with
      | fn f p q p' q' h1 h2 =>
      refine opRes_val (u := .func (.func _) p' q') ?_ (.fn _ _ _ _ _ h1 h2)
      simp [execOp, hu]
    · exact (den_fail he).elim
  case binOp op t x y yt =>
    obtain ⟨h1, h2⟩ := pure1_den he
    rw [h2]
    have ho' : opndOk x = true ∧ opndOk y = true := by simpa using ho
    have hx := opv_rep ht x ho'.1
    have hy := opv_rep ht y ho'.2
    obtain ⟨h3, h4⟩ := binOpA_run (P := P) hΓ.tys op t _ _ y _ _ hx hy (fun z hz k n e => by
      cases y with
      | const v =>
        simp only [Act.eval] at e
        subst e
        simpa [isZeroConst] using hz.symm
      | _ => simp [isZeroConst] at hz) r.1 w h1
    refine opRes_runs (s := do eqGuard op t x y (a.eval x) (a.eval y); binOp op t (a.eval x) (a.eval y)) rfl ?_
    obtain ⟨u, n, h5, h6⟩ := h3
    exact ⟨u, n, by rw [Sem.run_bind, h4]; exact h5, h6⟩
  case unOp op t x =>
    obtain ⟨h1, h2⟩ := pure1_den he
    rw [h2]
    exact opRes_runs (s := Op.unary op (a.eval x)) rfl (unOpA_run op _ _ (opv_rep ht x (by simpa using ho)) r.1 w h1)
  case convert s d x =>
    obtain ⟨h1, h2⟩ := pure1_den he
    rw [h2]
    exact opRes_runs (s := convert s d (a.eval x)) rfl (convertA_run hΓ.tys hs hr s d _ _ (opv_rep ht x (by simpa using ho)) r.1 h1)
  case makeFunc f x y =>
    rw [← den_ret he]
    have ho' : x.toList.all opndOk = true ∧ y.toList.all opndOk = true := by simpa using ho
    refine opRes_val (u := .func f (x.map a.eval) (y.map a.eval)) (by simp [execOp, Instr.makeFunc]) (.fn _ _ _ _ _ ?_ ?_)
    · simpa using opvs_rep ht x.toList ho'.1
    · simpa using opvs_rep ht y.toList ho'.2
  case makeSlice t l c =>
    have ho' : opndOk l = true ∧ opndOk c = true := by simpa using ho
    exact opRes_post (s := Instr.makeSlice t (a.eval l) (a.eval c)) rfl (makeSliceA_post hΓ.tys _ t l c _ _ _ _ (opv_rep ht l ho'.1) (opv_rep ht c ho'.2) (fun i h1 h2 => by rw [h1, h2]) r he hf)
  case slice t x lo hi mx =>
    obtain ⟨h1, h2⟩ := pure1_den he
    rw [h2]
    have ho' : opndOk x = true ∧ lo.all opndOk = true ∧ hi.all opndOk = true ∧ mx.all opndOk = true := by
      have : opndOk x = true ∧ (∀ x : Operand, lo = some x → opndOk x = true) ∧ (∀ x : Operand, hi = some x → opndOk x = true) ∧ ∀ x : Operand, mx = some x → opndOk x = true := by
        simpa [List.all_append] using ho
      refine ⟨this.1, ?_, ?_, ?_⟩
      · cases lo with
        | none => rfl
        | some y => exact this.2.1 y rfl
      · cases hi with
        | none => rfl
        | some y => exact this.2.2.1 y rfl
      · cases mx with
        | none => rfl
        | some y => exact this.2.2.2 y rfl
    have hz : ∀ x : Option Operand, isZeroC x = true → ∃ k, x.map a.eval = some (.int k 0) := by
      intro x hx
      match x, hx with
      | some (.const (.int k n)), hx =>
        have : n = 0 := by simpa [isZeroC] using hx
        subst this
        exact ⟨k, rfl⟩
    exact opRes_runs (s := Instr.sliceAt t (a.eval x) (lo.map a.eval) (hi.map a.eval) (mx.map a.eval)) rfl
      (sliceA_run hΓ.tys hs hr t _ _ _ _ hi mx _ _ _ _ (opv_rep ht x ho'.1) (orep ht lo ho'.2.1) (orep ht hi ho'.2.2.1) (orep ht mx ho'.2.2.2) (hz hi) (hz mx) r.1 h1)
  case fieldAddr t x f =>
    obtain ⟨h1, h2⟩ := pure1_den he
    rw [h2]
    exact opRes_runs (s := Instr.fieldAt t (a.eval x) f) rfl (fieldAddrA_run hΓ.tys hs hr t _ f _ (opv_rep ht x (by simpa using ho)) r.1 h1)
  case field t x f =>
    obtain ⟨h1, h2⟩ := pure1_den he
    rw [h2]
    exact opRes_runs (s := Instr.field t (a.eval x) f) rfl (fieldA_run hΓ.tys t _ f _ (opv_rep ht x (by simpa using ho)) r.1 h1)
  case indexAddr t x i =>
    obtain ⟨h1, h2⟩ := pure1_den he
    rw [h2]
    have ho' : opndOk x = true ∧ opndOk i = true := by simpa using ho
    exact opRes_runs (s := Instr.indexAt t (a.eval x) (a.eval i)) rfl (indexAddrA_run hΓ.tys hs hr t _ _ _ _ (opv_rep ht x ho'.1) (opv_rep ht i ho'.2) r.1 h1)
  case index t x i =>
    obtain ⟨h1, h2⟩ := pure1_den he
    rw [h2]
    have ho' : opndOk x = true ∧ opndOk i = true := by simpa using ho
    exact opRes_runs (s := Instr.index t (a.eval x) (a.eval i)) rfl (indexA_run hΓ.tys t _ _ _ _ (opv_rep ht x ho'.1) (opv_rep ht i ho'.2) r.1 h1)
  case extract t i =>
    have hx := opv_rep ht t (by simpa using ho)
    generalize hv : opv tm t = v at he hx
    generalize hu : a.eval t = u at hx
    split at he
    · obtain ⟨h1, h2⟩ := pure1_den he
      rw [h2]
      cases hx with
      | tup _ cs hcs =>
      obtain ⟨u', h3, h4⟩ := hcs.get i (den_opt h1)
      have h5 : cs[i]? = some u' := by simpa using h3
      refine opRes_runs (s := Instr.extract (.tuple cs) i) (by simp [execOp, hu]) (RunsTo.of (u := u') ?_ h4)
      simp [Instr.extract, h5]
    · exact (den_fail he).elim
  case call c =>
    have hops : c.operands.toList.all opndOk = true := ho
    split at he
    · rename_i b hb
      obtain ⟨h1, h2⟩ := pure1_den he
      rw [h2]
      have hargs : c.args.toList.all opndOk = true := by simpa [Call.operands, hb] using hops
      obtain ⟨u, h3, h4⟩ := builtinA_run (P := P) (w := w) hΓ.tys b c.argTypes type (c.args.map fun | .const _ => true | _ => false) _ (c.args.map a.eval) (by simpa using opvs_rep ht c.args.toList hargs) r.1 h1
      refine opRes_val (u := u) ?_ h4
      simp only [execOp, resolve, hb, Sem.run_bind, Sem.run_pure, Result.andThen_ok, invoke]
      exact h3
    · rename_i f hf'
      have hargs : c.args.toList.all opndOk = true ∧ opndOk f = true := by
        have : opndOk f = true ∧ c.args.toList.all opndOk = true := by simpa [Call.operands, hf'] using hops
        exact ⟨this.2, this.1⟩
      have hfv := opv_rep ht f hargs.2
      have hav := opvs_rep ht c.args.toList hargs.1
      generalize hfa : opv tm f = fa at he hfv
      generalize hfu : a.eval f = fu at hfv
      split at he
      · rename_i gf as has
        split at he
        · rename_i s hsp
          unfold callee at has
          split at has
          · cases has
            cases hfv with
            | fn _ p q p' q' h1 h2 =>
            have hall : ∀ pp qq, VReps β pp p'.toList → VReps β qq q'.toList → VReps β ((pp ++ c.args.toList.map (opv tm)) ++ qq) ((p' ++ c.args.map a.eval) ++ q').toList := by
              intro pp qq h1 h2
              simp only [Array.toList_append, Array.toList_map]
              exact (h1.append hav).append h2
            have hall := hall _ _ h1 h2
            have := useSpec_post (hΓ.spec _ _ hsp) hs hr _ _ hall _ r he hd hβ
            have hex : (execOp a.eval ⟨dst, .call c, type, pos, after, guard⟩).run P w = (callFunc gf ((p' ++ c.args.map a.eval) ++ q')).run P w := by
              simp [execOp, resolve, hf', hfu, Deferred.ofValue, invoke]
            unfold OpRes
            rw [hex]
            unfold CallOr at this
            generalize (callFunc gf ((p' ++ c.args.map a.eval) ++ q')).run P w = res at this ⊢
            cases res with
            | halt x w' => exact this.elim
            | ok n w' =>
              cases n
              case value u => exact this
              case enter f args => exact this
              all_goals exact this.elim
          · cases has
        · exact (den_fail he).elim
      · exact (den_fail he).elim
    · exact (den_fail he).elim
end
end Go.Ab
