/-
  Every operation does what the evaluator tells.
-/
import Derived.Test.YtgmjoehnkannkaaAbApp
namespace Go.Ab
open Go.RowKit

def CallsOk (P : Program) (call : CallF) : Prop :=
  ∀ (β : Bt) (w : World) (base : Nat) (h : Heap) (f : Nat) (as : List AV) (args : Array Value) (nm : Nat) (r : AV × Heap), Rep β h w base → base ≤ w.heap.size → VReps β as args.toList → (call f as h nm).den = some r →
    CallOr P f args w (Post β w base r.1 r.2)

section
variable {P : Program} {Γ : Ctx} {β : Bt} {h : Heap} {w : World} {base : Nat} {a : Act}

theorem Sub.refl' (h : Heap) : Sub h h := fun _ _ h => h

theorem addNew_den {h : Heap} {x r : AV × Heap} (he : (addNew h x).den = some r) : r = (x.1, h ++ x.2) ∧ Dist x.2 ∧ ∀ n b, hget x.2 n = some b → hget h n = none := by
  unfold addNew at he
  split at he
  · rename_i h0
    have := den_ret he
    subst this
    refine ⟨by rw [h0, List.append_nil], by rw [h0]; exact trivial, fun n b hn => by rw [h0] at hn; cases hn⟩
  · generalize hf : fresh h x.2 = ok at he
    cases ok with
    | false => exact (den_fail he).elim
    | true =>
      simp only [cond_true] at he
      have := den_ret he
      subst this
      obtain ⟨h1, h2⟩ := fresh_spec h _ hf
      exact ⟨rfl, h2, h1⟩

theorem post_of_add {x r : AV × Heap} (hr : Rep β h w base) (hb : base ≤ w.heap.size) (he : (addNew h x).den = some r) {u : Value} {w' : World} (hp : AddPost β w x.1 x.2 u w') : Post β w base r.1 r.2 u w' := by
  obtain ⟨rfl, _, _⟩ := addNew_den he
  exact add_post hr hb hp

theorem evOp_sound {call : CallF} (hΓ : CtxOk P Γ) (hcall : CallsOk P call) (hr : Rep β h w base) (hb : base ≤ w.heap.size) {tm : List AV} (ht : VReps β tm a.tmps.toList) (nm : Nat) (o : Oper) (ho : operOk o = true) (r : AV × Heap)
    (he : (evOp Γ call tm h nm o).den = some r) : OpRes P o a w (Post β w base r.1 r.2) := by
  unfold evOp at he
  split at he
  · obtain ⟨x, h1, h2⟩ := den_bind_some he
    obtain ⟨_, hd, hn⟩ := addNew_den h2
    exact (evOpA_sound hΓ (Sub.refl' h) hr ht nm o ho x h1 hd (fun n b hg => hr.dom n (hn n b hg))).mono fun u w' hp => post_of_add hr hb h2 hp
  · split at he
    · rename_i t p x hop
      obtain ⟨h', h1, h2⟩ := den_bind_some he
      have := den_ret h2
      subst this
      have ho' : opndOk p = true ∧ opndOk x = true := by simpa [operOk, hop, Op.operands] using ho
      obtain ⟨w', h3, h4, h5⟩ := storeA_run (P := P) hΓ.tys hr t _ _ _ _ (opv_rep ht p ho'.1) (opv_rep ht x ho'.2) h' h1
      unfold OpRes execOp
      simp only [hop, Sem.run_bind, h3, Result.andThen_ok, Sem.run_pure]
      exact ⟨β, β.le_refl, h4, .tup _ _ .nil, h5⟩
    · exact (den_fail he).elim
  · rename_i hk
    split at he
    · rename_i c hop
      split at he
      · rename_i s x hargs
        have hbi : c.callee = .builtin .append := by
          unfold kindOf at hk
          rw [hop] at hk
          dsimp only at hk
          split at hk
          · assumption
          · split at hk
            · split at hk <;> cases hk
            · cases hk
          · cases hk
        have hops : c.args.toList.all opndOk = true := by
          have : c.operands.toList.all opndOk = true := by unfold operOk at ho; rw [hop] at ho; exact ho
          simpa [Call.operands, hbi] using this
        rw [hargs] at hops
        simp only [List.all_cons, List.all_nil, Bool.and_true, Bool.and_eq_true] at hops
        obtain ⟨u, w', h3, h4⟩ := appendA_run (P := P) hΓ.tys hr hb (opName nm o) o.type c.argTypes _ _ _ _ (opv_rep ht s hops.1) (opv_rep ht x hops.2) r he
        have hex : c.args.map a.eval = #[a.eval s, a.eval x] := by
          apply Array.ext'
          simp [hargs]
        refine opRes_value (u := u) (w' := w') ?_ h4
        simp only [execOp, hop, resolve, hbi, Sem.run_bind, Sem.run_pure, Result.andThen_ok, invoke, hex]
        unfold builtin
        simp only [Sem.run_bind, h3, Result.andThen_ok, Sem.run_pure]
      · exact (den_fail he).elim
    · exact (den_fail he).elim
  · split at he
    · rename_i c hop
      split at he
      · rename_i f hcl
        have hops : opndOk f = true ∧ c.args.toList.all opndOk = true := by
          have : c.operands.toList.all opndOk = true := by unfold operOk at ho; rw [hop] at ho; exact ho
          simpa [Call.operands, hcl] using this
        have hfv := opv_rep ht f hops.1
        have hav := opvs_rep ht c.args.toList hops.2
        generalize hfa : opv tm f = fa at he hfv
        generalize hfu : a.eval f = fu at hfv
        split at he
        · rename_i g as has
          unfold callee at has
          split at has
          · cases has
            cases hfv with
            | fn _ p q p' q' h1 h2 =>
            have hall : ∀ pp qq, VReps β pp p'.toList → VReps β qq q'.toList → VReps β ((pp ++ c.args.toList.map (opv tm)) ++ qq) ((p' ++ c.args.map a.eval) ++ q').toList := by
              intro pp qq h1 h2
              simp only [Array.toList_append, Array.toList_map]
              exact (h1.append hav).append h2
            have := hcall β w base h _ _ _ _ r hr hb (hall _ _ h1 h2) he
            have hex : (execOp a.eval o).run P w = (callFunc g ((p' ++ c.args.map a.eval) ++ q')).run P w := by
              simp [execOp, hop, resolve, hcl, hfu, Deferred.ofValue, invoke]
            unfold OpRes
            rw [hex]
            unfold CallOr at this
            generalize (callFunc g ((p' ++ c.args.map a.eval) ++ q')).run P w = res at this ⊢
            cases res with
            | halt x w' => exact this.elim
            | ok n w' =>
              cases n
              case value u => exact this
              case enter f args => exact this
              all_goals exact this.elim
          · cases has
        · exact (den_fail he).elim
      · exact (den_fail he).elim
    · exact (den_fail he).elim
end
end Go.Ab
