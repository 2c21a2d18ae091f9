/-
  Functions: what a call does.
-/
import Derived.Test.YtgmjoehnkannkaaAbCode
namespace Go.Ab
open Go.RowKit

/-- what is asked of the functions that are walked -/
structure FnsOk (Γ : Ctx) : Prop where
  ok : ∀ f fn c, Γ.fns f = some fn → fn.body = some c → (fn.name == "runtime.NumGoroutine") = false ∧ codeOk c = true

theorem callFunc_enter {P : Program} {f : FuncId} {fn : Func} {c : Code} (hf : P.funcs[f]? = some fn) (hname : (fn.name == "runtime.NumGoroutine") = false) (hb : fn.body = some c) (args : Array Value) (w : World) :
    (callFunc f args).run P w = .ok (.enter f args) w := by
  have h1 : fn.name ≠ "runtime.NumGoroutine" := by simpa using hname
  simp [callFunc, hf, h1, hb]

section
variable {P : Program} {Γ : Ctx}

theorem resA_run (hΓ : TysOk P Γ) {β : Bt} {h : Heap} {w : World} {base : Nat} (hr : Rep β h w base) {tm : List AV} {us : Array Value} (ht : VReps β tm us.toList) (g : ResultVar → Sem Value) (hg1 : ∀ t, g (.tmp t) = pure (us.getD t undef)) (hg2 : ∀ c t, g (.cell c t) = do loadVar t (← asAddr (us.getD c undef))) : ∀ (l : List ResultVar) (vs : List AV), (resA Γ tm h l).den = some vs →
    ∃ rs : List Value, (l.mapM (m := Sem) g).run P w = .ok rs w ∧ VReps β vs rs
  | [], vs, he => by
    have := den_ret he
    subst this
    exact ⟨[], rfl, .nil⟩
  | .tmp t :: r, vs, he => by
    obtain ⟨l, h1, h2⟩ := den_bind_some he
    have := den_ret h2
    subst this
    obtain ⟨rs, h3, h4⟩ := resA_run hΓ hr ht g hg1 hg2 r l h1
    refine ⟨us.getD t undef :: rs, ?_, .cons _ _ _ _ ?_ h4⟩
    · rw [List.mapM_cons, hg1]
      simp only [Sem.run_bind, Sem.run_pure, Result.andThen_ok, h3]
    · have := ht.getD t undef
      simpa [Array.getD_eq_getD_getElem?] using this
  | .cell c t :: r, vs, he => by
    obtain ⟨v, h0, he'⟩ := den_bind_some he
    obtain ⟨l, h1, h2⟩ := den_bind_some he'
    have := den_ret h2
    subst this
    obtain ⟨rs, h3, h4⟩ := resA_run hΓ hr ht g hg1 hg2 r l h1
    have hv := ht.getD c undef
    have hv' : VRep β (tm.getD c .top) (us.getD c undef) := by simpa [Array.getD_eq_getD_getElem?] using hv
    obtain ⟨ad, h5, u, h6, h7⟩ := loadA_run (P := P) hΓ (Sub.refl' h) hr t _ _ hv' v h0
    refine ⟨u :: rs, ?_, .cons _ _ _ _ h7 h4⟩
    have h5' : (asAddr (us.getD c undef)).run P w = .ok ad w := by rw [h5]; rfl
    rw [List.mapM_cons, hg2]
    simp only [Sem.run_bind, h5', Sem.run_pure, Result.andThen_ok, h6, h3]

theorem hget_mem {h : Heap} {n : Nat} {b : Blk} (hn : hget h n = some b) : n ∈ h.map (·.1) := by
  induction h with
  | nil => cases hn
  | cons p r ih =>
    obtain ⟨m, c⟩ := p
    by_cases e : m = n
    · subst e; exact List.mem_cons_self
    · rw [hget_cons_ne _ _ e] at hn
      exact List.mem_cons_of_mem _ (ih hn)

theorem VReps.replicate_top (β : Bt) (n : Nat) (u : Value) : VReps β (List.replicate n .top) (List.replicate n u) := by
  induction n with
  | zero => exact .nil
  | succ n ih => exact .cons _ _ _ _ (.top _) ih

theorem evBody_sound {call : CallF} (hΓ : CtxOk P Γ) (hF : FnsOk Γ) (hcall : CallsOk P call) (β : Bt) (w : World) (base : Nat) (h : Heap) (f : Nat) (as : List AV) (args : Array Value) (nm : Nat) (r : AV × Heap) (hr : Rep β h w base) (hb : base ≤ w.heap.size)
    (ha : VReps β as args.toList) (he : (evBody Γ call f as h nm).den = some r) : CallOr P f args w (Post β w base r.1 r.2) := by
  unfold evBody at he
  split at he
  · exact (den_fail he).elim
  · rename_i fn hfn
    split at he
    · exact (den_fail he).elim
    · rename_i c hc
      obtain ⟨hname, hcode⟩ := hF.ok f fn c hfn hc
      have hPf := hΓ.fns f fn hfn
      obtain ⟨⟨e, s'⟩, h1, h2⟩ := den_bind_some he
      unfold CallOr
      rw [callFunc_enter hPf hname hc args w]
      refine calls_of_wp hPf hc ?_
      have hlen : as.length = args.size := by rw [ha.length]; simp
      have hs : SR β base ⟨as ++ List.replicate (fn.ntmps - as.length) .top, h⟩ { tmps := args ++ Array.replicate (fn.ntmps - args.size) undef, defers := [] } w := by
        refine ⟨?_, hr, hb, rfl⟩
        show VReps β _ (args ++ Array.replicate (fn.ntmps - args.size) undef).toList
        rw [Array.toList_append, Array.toList_replicate, hlen]
        exact ha.append (VReps.replicate_top β _ _)
      have hpre : ∀ n l, β n = some l → n ∈ h.map (·.1) := by
        intro n l hn
        cases hg : hget h n with
        | some b => exact hget_mem hg
        | none => rw [hr.dom n hg] at hn; cases hn
      refine evCode_sound hΓ hcall f nm (h.map (·.1)) β hpre c hcode _ β _ _ w β.le_refl hs (e, s') h1 fun a' w' ⟨β', g1, g2, g3⟩ => ?_
      have fin : ((resA Γ s'.tm s'.hp fn.results.toList).bind fun l => (.ret (match l with | [v] => v | vs => .tup vs, s'.hp) : T (AV × Heap))).den = some r →
          a'.defers = [] ∧ ∃ v, (results fn a'.tmps).run P w' = .ok v w' ∧ ∃ u, Ending.returned v = .returned u ∧ Post β w base r.1 r.2 u w' := by
        intro h2
        refine ⟨g2.defers, ?_⟩
        obtain ⟨l, h3, h4⟩ := den_bind_some h2
        have := den_ret h4
        subst this
        obtain ⟨rs, h5, h6⟩ := resA_run (P := P) hΓ.tys g2.rep g2.tm (fun | .tmp t => pure (a'.tmps.getD t undef) | .cell a t => do loadVar t (← asAddr (a'.tmps.getD a undef))) (fun t => rfl) (fun c t => rfl) fn.results.toList l h3
        refine ⟨if h : rs.toArray.size = 1 then rs.toArray[0] else .tuple rs.toArray, ?_, _, rfl, β', g1, g2.rep, ?_, g3⟩
        · unfold results
          rw [Array.mapM_eq_mapM_toList]
          rw [Sem.run_bind, Sem.run_map]
          have h5' := congrArg (fun z => (z.andThen fun a w' => Result.ok a.toArray w').andThen fun a w' => Sem.run P (pure (if h : a.size = 1 then a[0] else Value.tuple a)) w') h5
          exact h5'
        · cases h6 with
          | nil => exact .tup _ _ .nil
          | cons v u l' s' k1 k2 =>
            cases k2 with
            | nil => exact k1
            | cons v2 u2 l2 s2 k3 k4 =>
              have : ¬ (u :: u2 :: s2).toArray.size = 1 := by simp
              rw [dif_neg this]
              exact .tup _ _ (.cons _ _ _ _ k1 (.cons _ _ _ _ k3 k4))
      cases e with
      | nrm => exact fin h2
      | ret => exact fin h2
      | ext i => exact (den_fail h2).elim

theorem evCall_sound (hΓ : CtxOk P Γ) (hF : FnsOk Γ) : ∀ d, CallsOk P (evCall Γ d)
  | 0 => fun β w base h f as args nm r hr hb ha he => (den_fail he).elim
  | d + 1 => fun β w base h f as args nm r hr hb ha he => by
    unfold evCall at he
    split at he
    · rename_i s hs
      obtain ⟨x, h1, h2⟩ := den_bind_some he
      obtain ⟨_, hd, hn⟩ := addNew_den h2
      have := useSpec_post (hΓ.spec _ _ hs) (Sub.refl' h) hr as args ha nm x h1 hd (fun n b hg => hr.dom n (hn n b hg))
      exact this.mono fun u w' hp => post_of_add hr hb h2 hp
    · exact evBody_sound hΓ hF (evCall_sound hΓ hF d) β w base h f as args nm r hr hb ha he
end
end Go.Ab
