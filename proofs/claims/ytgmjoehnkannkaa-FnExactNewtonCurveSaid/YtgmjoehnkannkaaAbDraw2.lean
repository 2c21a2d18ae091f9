/-
  Regions whose order is open: what the evaluator found, operation by operation.
-/
import Derived.Test.YtgmjoehnkannkaaAbDraw
namespace Go.Ab
open Go.RowKit

/-- told alike -/
def Eqv (v v' : AV) : Prop := ∀ β u, VRep β v u ↔ VRep β v' u
theorem Eqv.refl (v : AV) : Eqv v v := fun _ _ => Iff.rfl
theorem Eqv.symm {v v' : AV} (h : Eqv v v') : Eqv v' v := fun β u => (h β u).symm
theorem Eqv.trans {a b c : AV} (h : Eqv a b) (k : Eqv b c) : Eqv a c := fun β u => (h β u).trans (k β u)
theorem eqv_bl (b : Bool) : Eqv (.bl b) (.bs b) := fun β u => ⟨fun h => by cases h; exact .bs b, fun h => by cases h; exact .bl b⟩

def EqTm (tm tm' : List AV) (keep : Nat → Prop) : Prop := ∀ t, keep t → Eqv (tm.getD t .top) (tm'.getD t .top)

theorem getD_set (tm : List AV) (d t : Nat) (v : AV) : (tm.set d v).getD t .top = if d = t ∧ t < tm.length then v else tm.getD t .top := by
  rw [List.getD_eq_getElem?_getD, List.getElem?_set]
  by_cases e : d = t
  · subst e
    by_cases h : d < tm.length
    · simp [h]
    · simp [h, List.getD_eq_getElem?_getD]
  · simp [e, List.getD_eq_getElem?_getD]

theorem setD_length (tm : List AV) (d : Option Nat) (v : AV) : (setD tm d v).length = tm.length := by
  cases d with
  | none => rfl
  | some d => exact List.length_set

/-- the guard lets it run, or does not -/
def Runs (all : List Oper) (o : Oper) (tm : List AV) (yes : Bool) : Prop :=
  match o.guard with
  | none => yes = true
  | some (g, want) => ∃ sl, slotOf all g = some sl ∧ ((∃ b, (tm.getD sl .top = .bl b ∨ tm.getD sl .top = .bs b) ∧ (b == want) = yes) ∨ (tm.getD sl .top = .tup [] ∧ yes = false))

structure Fact (Γ : Ctx) (nm : Nat) (all : List Oper) (o : Oper) (tm : List AV) (g : Heap) (v : AV) (d : Heap) : Prop where
  is : (Runs all o tm true ∧ (evOpA Γ tm g nm o).den = some (v, d)) ∨ (Runs all o tm false ∧ v = .tup [] ∧ d = [])

/-- no operation of the list writes the slot -/
def NoDst (l : List Oper) (t : Nat) : Prop := ∀ o ∈ l, o.dst ≠ some t

structure Drawn (Γ : Ctx) (nm : Nat) (all : List Oper) (bs : List Nat) (h : Heap) (rest : List Oper) (j : Nat) (tm : List AV) (ds : List Heap) (tmF : List AV) (dsF : List Heap) : Prop where
  len : tmF.length = tm.length
  more : ∃ r, dsF = ds ++ r ∧ r.length = rest.length
  kept : ∀ t, NoDst rest t → Eqv (tmF.getD t .top) (tm.getD t .top)
  each : ∀ k o, rest[k]? = some o → ∃ tmk v d, dsF[ds.length + k]? = some d ∧ tmk.length = tm.length ∧ (∀ t, NoDst (rest.drop k) t → Eqv (tmF.getD t .top) (tmk.getD t .top)) ∧
    Fact Γ nm all o tmk (h ++ pickD (bs.getD (j + k) 0) 0 (dsF.take (ds.length + k))) v d ∧
    (∀ t, o.dst = some t → t < tm.length → NoDst (rest.drop (k + 1)) t → Eqv (tmF.getD t .top) v) ∧
    fresh (h ++ joinD (dsF.take (ds.length + k))) d = true

theorem Drawn.step {Γ : Ctx} {nm : Nat} {all : List Oper} {bs : List Nat} {h : Heap} {o : Oper} {rest : List Oper} {j : Nat} {tm tm0 : List AV} {ds : List Heap} {tmF : List AV} {dsF : List Heap} {v : AV} {d : Heap}
    (hlen : tm0.length = tm.length) (heq : ∀ t, Eqv (tm0.getD t .top) (tm.getD t .top)) (hf : Fact Γ nm all o tm0 (h ++ pickD (bs.getD j 0) 0 ds) v d) (hfr : fresh (h ++ joinD ds) d = true)
    (hD : Drawn Γ nm all bs h rest (j + 1) (setD tm0 o.dst v) (ds ++ [d]) tmF dsF) : Drawn Γ nm all bs h (o :: rest) j tm ds tmF dsF := by
  have hl : (setD tm0 o.dst v).length = tm.length := by rw [setD_length, hlen]
  obtain ⟨r, hr1, hr2⟩ := hD.more
  have e : dsF = ds ++ (d :: r) := by rw [hr1]; simp
  have htake : dsF.take ds.length = ds := by rw [e]; simp
  have kept0 : ∀ t, NoDst (o :: rest) t → Eqv (tmF.getD t .top) (tm0.getD t .top) := by
    intro t ht
    have h1 := hD.kept t fun o' ho' => ht o' (List.mem_cons_of_mem _ ho')
    have h2 := ht o List.mem_cons_self
    cases hd : o.dst with
    | none => rw [hd] at h1; exact h1
    | some d' =>
      rw [hd] at h1 h2
      have : d' ≠ t := fun e => h2 (by rw [e])
      rw [setD, getD_set, if_neg (fun e => this e.1)] at h1
      exact h1
  refine ⟨by rw [hD.len, hl], ⟨d :: r, e, by simp [hr2]⟩, fun t ht => (kept0 t ht).trans (heq t), fun k o' hk => ?_⟩
  cases k with
  | zero =>
    simp at hk; subst hk
    refine ⟨tm0, v, d, by rw [e]; simp, hlen, fun t ht => kept0 t (by simpa using ht), by simp only [Nat.add_zero, htake]; exact hf, fun t hd ht hno => ?_, by simp only [Nat.add_zero, htake]; exact hfr⟩
    have h1 := hD.kept t (by simpa using hno)
    have hlt : t < tm0.length := hlen ▸ ht
    rw [hd, setD, getD_set, if_pos ⟨rfl, hlt⟩] at h1
    exact h1
  | succ k =>
    obtain ⟨tmk, v', d', h1, h2, h3, h4, h5, h6⟩ := hD.each k o' (by simpa using hk)
    have el : (ds ++ [d]).length + k = ds.length + (k + 1) := by simp; omega
    rw [el] at h1 h4 h6
    rw [show j + 1 + k = j + (k + 1) by omega] at h4
    exact ⟨tmk, v', d', h1, by rw [h2, hl], by simpa using h3, h4, fun t hd ht hno => h5 t hd (hl ▸ ht) (by simpa using hno), h6⟩

theorem evDraw_drawn (Γ : Ctx) (nm : Nat) (all : List Oper) (bs : List Nat) (h : Heap) : ∀ (rest : List Oper) (j : Nat) (tm : List AV) (ds : List Heap) (tmF : List AV) (dsF : List Heap),
    (evDraw Γ nm all bs h rest j tm ds).den = some (tmF, dsF) → Drawn Γ nm all bs h rest j tm ds tmF dsF
  | [], j, tm, ds, tmF, dsF, he => by
    have := den_ret he
    cases this
    exact ⟨rfl, ⟨[], by simp, rfl⟩, fun t _ => .refl _, fun k o hk => by simp at hk⟩
  | o :: rest, j, tm, ds, tmF, dsF, he => by
    have run : ∀ tm0, tm0.length = tm.length → (∀ t, Eqv (tm0.getD t .top) (tm.getD t .top)) → Runs all o tm0 true →
        ((match kindOf Γ tm0 o with
          | .add => (evOpA Γ tm0 (h ++ pickD (bs.getD j 0) 0 ds) nm o).bind fun r => bif fresh (h ++ joinD ds) r.2 then evDraw Γ nm all bs h rest (j + 1) (setD tm0 o.dst r.1) (ds ++ [r.2]) else .fail
          | _ => .fail) : T (List AV × List Heap)).den = some (tmF, dsF) → Drawn Γ nm all bs h (o :: rest) j tm ds tmF dsF := by
      intro tm0 hlen heq hrun he
      split at he
      · obtain ⟨r, h1, h2⟩ := den_bind_some he
        generalize hfr : fresh (h ++ joinD ds) r.2 = ok at h2
        cases ok with
        | false => exact (den_fail h2).elim
        | true => exact Drawn.step hlen heq ⟨.inl ⟨hrun, h1⟩⟩ hfr (evDraw_drawn Γ nm all bs h rest _ _ _ _ _ h2)
      · exact (den_fail he).elim
    have skip : ∀ tm0, tm0.length = tm.length → (∀ t, Eqv (tm0.getD t .top) (tm.getD t .top)) → Runs all o tm0 false →
        (evDraw Γ nm all bs h rest (j + 1) (setD tm0 o.dst (.tup [])) (ds ++ [[]])).den = some (tmF, dsF) → Drawn Γ nm all bs h (o :: rest) j tm ds tmF dsF := by
      intro tm0 hlen heq hrun he
      exact Drawn.step hlen heq ⟨.inr ⟨hrun, rfl, rfl⟩⟩ rfl (evDraw_drawn Γ nm all bs h rest _ _ _ _ _ he)
    unfold evDraw at he
    dsimp only at he
    have same : ∀ t, Eqv (tm.getD t .top) (tm.getD t .top) := fun t => .refl _
    cases hg : o.guard with
    | none =>
      rw [hg] at he
      exact run tm rfl same (by unfold Runs; rw [hg]) he
    | some gw =>
      obtain ⟨g, want⟩ := gw
      rw [hg] at he
      dsimp only at he
      split at he
      · exact (den_fail he).elim
      · rename_i d hd
        have mk : ∀ tm0 yes, ((∃ b, (tm0.getD d .top = .bl b ∨ tm0.getD d .top = .bs b) ∧ (b == want) = yes) ∨ (tm0.getD d .top = .tup [] ∧ yes = false)) → Runs all o tm0 yes := by
          intro tm0 yes h
          unfold Runs; rw [hg]
          exact ⟨d, hd, h⟩
        split at he
        · rename_i b hb
          cases hbw : (b == want) with
          | true => rw [hbw] at he; exact run tm rfl same (mk _ _ (.inl ⟨b, .inl hb, hbw⟩)) he
          | false => rw [hbw] at he; exact skip tm rfl same (mk _ _ (.inl ⟨b, .inl hb, hbw⟩)) he
        · rename_i b hb
          have hlt : d < tm.length := by
            by_cases hlt : d < tm.length
            · exact hlt
            · rw [List.getD_eq_getElem?_getD, List.getElem?_eq_none (by omega)] at hb; cases hb
          have hset : ∀ t, Eqv ((tm.set d (.bl b)).getD t .top) (tm.getD t .top) := by
            intro t
            rw [getD_set]
            split
            · rename_i h
              rw [← h.1, hb]; exact eqv_bl b
            · exact .refl _
          have hbl : (tm.set d (.bl b)).getD d .top = .bl b := by rw [getD_set, if_pos ⟨rfl, hlt⟩]
          rw [T.den] at he
          cases b with
          | true =>
            simp only [cond_true] at he
            cases want with
            | true => exact run _ List.length_set hset (mk _ _ (.inl ⟨true, .inl hbl, rfl⟩)) he
            | false => exact skip _ List.length_set hset (mk _ _ (.inl ⟨true, .inl hbl, rfl⟩)) he
          | false =>
            simp only [cond_false] at he
            cases want with
            | true => exact skip _ List.length_set hset (mk _ _ (.inl ⟨false, .inl hbl, rfl⟩)) he
            | false => exact run _ List.length_set hset (mk _ _ (.inl ⟨false, .inl hbl, rfl⟩)) he
        · rename_i hb
          exact skip tm rfl same (mk _ _ (.inr ⟨hb, rfl⟩)) he
        · exact (den_fail he).elim
end Go.Ab
