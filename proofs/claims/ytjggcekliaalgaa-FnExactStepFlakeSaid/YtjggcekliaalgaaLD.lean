/-
  Regions whose order is open.
-/
import Derived.Test.YtjggcekliaalgaaLC
import Derived.Test.YtjggcekliaalgaaLA
namespace Go.Ab
open Go.RowKit

theorem evOpA_congr (Γ : Ctx) {tm tm' : List AV} (h : Heap) (nm : Nat) (o : Oper) (hx : ∀ x ∈ o.op.operands, opv tm x = opv tm' x) : evOpA Γ tm h nm o = evOpA Γ tm' h nm o := by
  obtain ⟨dst, op, type, pos, after, guard⟩ := o
  have pairs : ∀ ps : Array (Nat × Operand), (∀ x ∈ ps.map (·.2), opv tm x = opv tm' x) →
      (ps.toList.map fun p => (p.1, opv tm p.2)) = (ps.toList.map fun p => (p.1, opv tm' p.2)) := fun ps hp =>
    List.map_congr_left fun p hm => by
      rw [hp p.2 (Array.mem_map.2 ⟨p, by simpa using hm, rfl⟩)]
  have lst : ∀ l : Array Operand, (∀ x ∈ l, opv tm x = opv tm' x) → l.toList.map (opv tm) = l.toList.map (opv tm') := fun l hl =>
    List.map_congr_left fun x hm => hl x (by simpa using hm)
  have op1 : ∀ x : Option Operand, (∀ y, x = some y → opv tm y = opv tm' y) → x.map (opv tm) = x.map (opv tm') := by
    intro x hx
    cases x with
    | none => rfl
    | some y => simp [hx y rfl]
  cases op <;> simp only [Op.operands] at hx <;> simp only [evOpA]
  case build t ps => rw [pairs ps fun x hm => hx x (by simpa using hm)]
  case buildSlice t n ps => rw [pairs ps fun x hm => hx x (by simpa using hm)]
  case makeFunc fn first captured => rw [lst first fun x hm => hx x (by simp [hm]), lst captured fun x hm => hx x (by simp [hm])]
  case call c =>
    have hargs : c.args.toList.map (opv tm) = c.args.toList.map (opv tm') := lst c.args fun x hm => hx x (by simp [Call.operands, hm])
    cases hc : c.callee with
    | value f => simp only [hargs]; rw [hx f (by simp [Call.operands, hc])]
    | invoke r m => rfl
    | builtin b => simp only [hargs]; cases b <;> rfl
  case slice t x lo hi mx => cases lo <;> cases hi <;> cases mx <;> simp_all
  all_goals (first | rfl | (simp_all; done))

theorem evMod_congr (Γ : Ctx) {tm tm' : List AV} (h : Heap) (nm : Nat) (o : Oper) (n : Nat) (hx : ∀ x ∈ o.op.operands, opv tm x = opv tm' x) : evMod Γ tm h nm o n = evMod Γ tm' h nm o n := by
  obtain ⟨dst, op, type, pos, after, guard⟩ := o
  cases op <;> simp only [Op.operands] at hx <;> simp only [evMod]
  case store t a x => rw [hx a (by simp), hx x (by simp)]
  case call c =>
    cases hc : c.callee with
    | value f => rfl
    | invoke r m => rfl
    | builtin b =>
      cases b <;> try rfl
      have hargs : ∀ x ∈ c.args.toList, opv tm x = opv tm' x := fun x hm => hx x (by simp [Call.operands]; exact .inr (by simpa using hm))
      generalize c.args.toList = l at hargs
      match l, hargs with
      | [], _ => rfl
      | [_], _ => rfl
      | [s, x], hargs => simp only [hargs s (by simp), hargs x (by simp)]
      | _ :: _ :: _ :: _, _ => rfl

/-! ### What comes ahead of what -/
def backFrom : Nat → List Oper → Bool
  | _, [] => true
  | j, o :: r => o.after.toList.all (fun e => !Region.binds .any e || Nat.blt e.on j) && backFrom (j + 1) r

def bitsOf (acc : List Nat) (o : Oper) : Nat := o.after.toList.foldl (fun s e => bif Region.binds .any e then s ||| 2 ^ e.on ||| acc.getD e.on 0 else s) 0

theorem bits_fold (acc : List Nat) (i : Nat) : ∀ (es : List Edge) (s : Nat), (es.foldl (fun s e => bif Region.binds .any e then s ||| 2 ^ e.on ||| acc.getD e.on 0 else s) s).testBit i = true →
    s.testBit i = true ∨ ∃ e ∈ es, Region.binds .any e = true ∧ (e.on = i ∨ (acc.getD e.on 0).testBit i = true)
  | [], s, h => .inl h
  | e :: es, s, h => by
    rw [List.foldl_cons] at h
    rcases bits_fold acc i es _ h with h1 | ⟨e', h1, h2⟩
    · cases hb : Region.binds .any e with
      | false => rw [hb] at h1; exact .inl h1
      | true =>
        rw [hb] at h1
        simp only [cond_true, Nat.testBit_or, Bool.or_eq_true] at h1
        rcases h1 with (h1 | h1) | h1
        · exact .inl h1
        · refine .inr ⟨e, List.mem_cons_self, hb, .inl ?_⟩
          rw [Nat.testBit_two_pow] at h1
          simpa using h1
        · exact .inr ⟨e, List.mem_cons_self, hb, .inr h1⟩
    · exact .inr ⟨e', List.mem_cons_of_mem _ h1, h2⟩

theorem befores_go : ∀ (ops : List Oper) (acc : List Nat), ∃ more, ops.foldl (init := acc) (fun acc o => acc ++ [bitsOf acc o]) = acc ++ more ∧ more.length = ops.length ∧
    ∀ j o, ops[j]? = some o → (acc ++ more).getD (acc.length + j) 0 = bitsOf ((acc ++ more).take (acc.length + j)) o
  | [], acc => ⟨[], by simp, rfl, fun j o h => by simp at h⟩
  | o :: r, acc => by
    obtain ⟨more, h1, h2, h3⟩ := befores_go r (acc ++ [bitsOf acc o])
    refine ⟨bitsOf acc o :: more, by rw [List.foldl_cons, h1]; simp, by simp [h2], fun j o' hj => ?_⟩
    have e : acc ++ bitsOf acc o :: more = (acc ++ [bitsOf acc o]) ++ more := by simp
    cases j with
    | zero =>
      simp at hj; subst hj
      simp [List.getD_eq_getElem?_getD]
    | succ j =>
      rw [e]
      have := h3 j o' (by simpa using hj)
      rw [show (acc ++ [bitsOf acc o]).length + j = acc.length + (j + 1) by simp; omega] at this
      exact this

theorem befores_spec {ops : List Oper} {j : Nat} {o : Oper} (hj : ops[j]? = some o) : (befores ops).getD j 0 = bitsOf ((befores ops).take j) o := by
  obtain ⟨more, h1, _, h3⟩ := befores_go ops []
  have h1' : befores ops = more := by
    have : befores ops = ops.foldl (init := []) (fun acc o => acc ++ [bitsOf acc o]) := rfl
    rw [this, h1]; rfl
  have := h3 j o hj
  rw [h1']
  simpa using this

/-- who comes ahead of j, by one edge or more -/
theorem befores_bit {ops : List Oper} {i j : Nat} {o : Oper} (hj : ops[j]? = some o) (h : ((befores ops).getD j 0).testBit i = true) :
    ∃ e ∈ o.after.toList, Region.binds .any e = true ∧ (e.on = i ∨ (e.on < j ∧ ((befores ops).getD e.on 0).testBit i = true)) := by
  rw [befores_spec hj] at h
  rcases bits_fold _ i _ _ h with h1 | ⟨e, h1, h2, h3⟩
  · simp at h1
  · refine ⟨e, h1, h2, ?_⟩
    rcases h3 with h3 | h3
    · exact .inl h3
    · by_cases hlt : e.on < j
      · refine .inr ⟨hlt, ?_⟩
        rw [List.getD_eq_getElem?_getD, List.getElem?_take, if_pos hlt] at h3
        rw [List.getD_eq_getElem?_getD]; exact h3
      · rw [List.getD_eq_getElem?_getD, List.getElem?_take, if_neg hlt] at h3
        simp at h3

theorem backFrom_get : ∀ {ops : List Oper} {k j : Nat} {o : Oper}, backFrom k ops = true → ops[j]? = some o → ∀ e ∈ o.after.toList, Region.binds .any e = true → e.on < k + j
  | [], _, _, _, _, h => by simp at h
  | o :: r, k, j, o', hb, h => by
    unfold backFrom at hb
    simp only [Bool.and_eq_true] at hb
    intro e he hbd
    cases j with
    | zero =>
      simp at h; subst h
      have := List.all_eq_true.1 hb.1 e he
      rw [hbd] at this
      simpa [Nat.blt_eq] using this
    | succ j =>
      have := backFrom_get hb.2 (by simpa using h) e he hbd
      omega

section
variable {all : List Oper}

/-- what is listed holds all that comes ahead of it -/
def Closed (all : List Oper) (L : Nat → Prop) : Prop := ∀ j o, L j → all[j]? = some o → ∀ e ∈ o.after.toList, Region.binds .any e = true → L e.on

theorem ahead_in {L : Nat → Prop} (hL : Closed all L) : ∀ (j : Nat) (o : Oper), all[j]? = some o → (∀ e ∈ o.after.toList, Region.binds .any e = true → L e.on) → ∀ i, ((befores all).getD j 0).testBit i = true → L i := by
  intro j
  induction j using Nat.strongRecOn with
  | ind j ih =>
    intro o hj hin i hi
    obtain ⟨e, h1, h2, h3⟩ := befores_bit hj hi
    rcases h3 with rfl | ⟨hlt, h3⟩
    · exact hin e h1 h2
    · have hLe := hin e h1 h2
      cases ho : all[e.on]? with
      | none =>
        exfalso
        have : all.length ≤ e.on := List.getElem?_eq_none_iff.1 ho
        have := (List.getElem?_eq_some_iff.1 hj).1
        omega
      | some o' => exact ih e.on hlt o' ho (fun e' h4 h5 => hL e.on o' hLe ho e' h4 h5) i h3

theorem bit_lt (hback : backFrom 0 all = true) : ∀ (j : Nat) (o : Oper), all[j]? = some o → ∀ i, ((befores all).getD j 0).testBit i = true → i < j := by
  intro j
  induction j using Nat.strongRecOn with
  | ind j ih =>
    intro o hj i hi
    obtain ⟨e, h1, h2, h3⟩ := befores_bit hj hi
    have hlt := backFrom_get hback hj e h1 h2
    rw [Nat.zero_add] at hlt
    rcases h3 with rfl | ⟨_, h3⟩
    · exact hlt
    · cases ho : all[e.on]? with
      | none =>
        exfalso
        have : all.length ≤ e.on := List.getElem?_eq_none_iff.1 ho
        have := (List.getElem?_eq_some_iff.1 hj).1
        omega
      | some o' => have := ih e.on hlt o' ho i h3; omega

theorem tailFrom_spec (bs : List Nat) : ∀ n, tailFrom bs n ≤ n ∧ ∀ j, tailFrom bs n ≤ j → j < n → ∀ i, i < j → (bs.getD j 0).testBit i = true
  | 0 => ⟨Nat.le_refl _, fun j _ h => absurd h (by omega)⟩
  | n + 1 => by
    unfold tailFrom
    cases hb : Nat.beq (bs.getD n 0) (2 ^ n - 1) with
    | false => exact ⟨Nat.le_refl _, fun j h1 h2 => by simp only [cond_false] at h1; omega⟩
    | true =>
      obtain ⟨h1, h2⟩ := tailFrom_spec bs n
      simp only [cond_true]
      refine ⟨by omega, fun j h3 h4 i hi => ?_⟩
      by_cases e : j = n
      · subst e
        rw [Nat.eq_of_beq_eq_true hb, Nat.testBit_two_pow_sub_one]
        simpa using hi
      · exact h2 j h3 (by omega) i hi
theorem befores_len (ops : List Oper) : (befores ops).length = ops.length := by
  obtain ⟨more, h1, h2, _⟩ := befores_go ops []
  show (ops.foldl (init := []) (fun acc o => acc ++ [bitsOf acc o])).length = ops.length
  rw [h1, List.nil_append, h2]
theorem bit_in {σ j : Nat} (h : ((befores all).getD σ 0).testBit j = true) : σ < all.length := by
  by_cases hl : σ < all.length
  · exact hl
  · rw [List.getD_eq_getElem?_getD, List.getElem?_eq_none (by rw [befores_len]; omega)] at h
    simp at h
end
end Go.Ab

/-
  Regions whose order is open: what the evaluator found, operation by operation.
-/
namespace Go.Ab
open Go.RowKit

/-- told alike -/
def Eqv (v v' : AV) : Prop := ∀ β u, VRep β v u ↔ VRep β v' u
theorem Eqv.refl (v : AV) : Eqv v v := fun _ _ => Iff.rfl
theorem Eqv.symm {v v' : AV} (h : Eqv v v') : Eqv v' v := fun β u => (h β u).symm
theorem Eqv.trans {a b c : AV} (h : Eqv a b) (k : Eqv b c) : Eqv a c := fun β u => (h β u).trans (k β u)
theorem eqv_bl (b : Bool) : Eqv (.bl b) (.bs b) := fun β u => ⟨fun h => by cases h; exact .bs b, fun h => by cases h; exact .bl b⟩

def EqTm (tm tm' : List AV) (keep : Nat → Prop) : Prop := ∀ t, keep t → Eqv (tm.getD t .top) (tm'.getD t .top)

theorem getD_set (tm : List AV) (d t : Nat) (v : AV) : (tm.set d v).getD t .top = if d = t ∧ t < tm.length then v else tm.getD t .top := by
  rw [List.getD_eq_getElem?_getD, List.getElem?_set]
  by_cases e : d = t
  · subst e
    by_cases h : d < tm.length
    · simp [h]
    · simp [h, List.getD_eq_getElem?_getD]
  · simp [e, List.getD_eq_getElem?_getD]

theorem setD_length (tm : List AV) (d : Option Nat) (v : AV) : (setD tm d v).length = tm.length := by
  cases d with
  | none => rfl
  | some d => exact List.length_set

/-- the guard lets it run, or does not -/
def Runs (all : List Oper) (o : Oper) (tm : List AV) (yes : Bool) : Prop :=
  match o.guard with
  | none => yes = true
  | some (g, want) => ∃ sl, slotOf all g = some sl ∧ ((∃ b, (tm.getD sl .top = .bl b ∨ tm.getD sl .top = .bs b) ∧ (b == want) = yes) ∨ (tm.getD sl .top = .tup [] ∧ yes = false))

structure Fact (Γ : Ctx) (nm : Nat) (all : List Oper) (m : Option (Nat × Nat)) (j : Nat) (o : Oper) (tm : List AV) (g : Heap) (v : AV) (d : Heap) : Prop where
  is : (isM m j = false ∧ ((Runs all o tm true ∧ (evOpA Γ tm g nm o).den = some (v, d)) ∨ (Runs all o tm false ∧ v = .tup [] ∧ d = []))) ∨ ∃ n, m = some (j, n) ∧ Runs all o tm true ∧ (evMod Γ tm g nm o n).den = some (v, d)

/-- no operation of the list writes the slot -/
def NoDst (l : List Oper) (t : Nat) : Prop := ∀ o ∈ l, o.dst ≠ some t

structure Drawn (Γ : Ctx) (nm : Nat) (all : List Oper) (bs : List Nat) (m : Option (Nat × Nat)) (h : Heap) (rest : List Oper) (j : Nat) (tm : List AV) (ds : List Heap) (tmF : List AV) (dsF : List Heap) : Prop where
  len : tmF.length = tm.length
  more : ∃ r, dsF = ds ++ r ∧ r.length = rest.length
  kept : ∀ t, NoDst rest t → Eqv (tmF.getD t .top) (tm.getD t .top)
  each : ∀ k o, rest[k]? = some o → ∃ tmk v d, dsF[ds.length + k]? = some d ∧ tmk.length = tm.length ∧ (∀ t, NoDst (rest.drop k) t → Eqv (tmF.getD t .top) (tmk.getD t .top)) ∧
    Fact Γ nm all m (j + k) o tmk (opH m bs h (j + k) ++ pickD (bs.getD (j + k) 0) 0 (dsF.take (ds.length + k))) v d ∧
    (∀ t, o.dst = some t → t < tm.length → NoDst (rest.drop (k + 1)) t → Eqv (tmF.getD t .top) v) ∧
    fresh (delH m h ++ joinD (dsF.take (ds.length + k))) d = true

theorem Drawn.step {Γ : Ctx} {nm : Nat} {all : List Oper} {bs : List Nat} {m : Option (Nat × Nat)} {h : Heap} {o : Oper} {rest : List Oper} {j : Nat} {tm tm0 : List AV} {ds : List Heap} {tmF : List AV} {dsF : List Heap} {v : AV} {d : Heap}
    (hlen : tm0.length = tm.length) (heq : ∀ t, Eqv (tm0.getD t .top) (tm.getD t .top)) (hf : Fact Γ nm all m j o tm0 (opH m bs h j ++ pickD (bs.getD j 0) 0 ds) v d) (hfr : fresh (delH m h ++ joinD ds) d = true)
    (hD : Drawn Γ nm all bs m h rest (j + 1) (setD tm0 o.dst v) (ds ++ [d]) tmF dsF) : Drawn Γ nm all bs m h (o :: rest) j tm ds tmF dsF := by
  have hl : (setD tm0 o.dst v).length = tm.length := by rw [setD_length, hlen]
  obtain ⟨r, hr1, hr2⟩ := hD.more
  have e : dsF = ds ++ (d :: r) := by rw [hr1]; simp
  have htake : dsF.take ds.length = ds := by rw [e]; simp
  have kept0 : ∀ t, NoDst (o :: rest) t → Eqv (tmF.getD t .top) (tm0.getD t .top) := by
    intro t ht
    have h1 := hD.kept t fun o' ho' => ht o' (List.mem_cons_of_mem _ ho')
    have h2 := ht o List.mem_cons_self
    cases hd : o.dst with
    | none => rw [hd] at h1; exact h1
    | some d' =>
      rw [hd] at h1 h2
      have : d' ≠ t := fun e => h2 (by rw [e])
      rw [setD, getD_set, if_neg (fun e => this e.1)] at h1
      exact h1
  refine ⟨by rw [hD.len, hl], ⟨d :: r, e, by simp [hr2]⟩, fun t ht => (kept0 t ht).trans (heq t), fun k o' hk => ?_⟩
  cases k with
  | zero =>
    simp at hk; subst hk
    refine ⟨tm0, v, d, by rw [e]; simp, hlen, fun t ht => kept0 t (by simpa using ht), by simp only [Nat.add_zero, htake]; exact hf, fun t hd ht hno => ?_, by simp only [Nat.add_zero, htake]; exact hfr⟩
    have h1 := hD.kept t (by simpa using hno)
    have hlt : t < tm0.length := hlen ▸ ht
    rw [hd, setD, getD_set, if_pos ⟨rfl, hlt⟩] at h1
    exact h1
  | succ k =>
    obtain ⟨tmk, v', d', h1, h2, h3, h4, h5, h6⟩ := hD.each k o' (by simpa using hk)
    have el : (ds ++ [d]).length + k = ds.length + (k + 1) := by simp; omega
    rw [el] at h1 h4 h6
    rw [show j + 1 + k = j + (k + 1) by omega] at h4
    exact ⟨tmk, v', d', h1, by rw [h2, hl], by simpa using h3, h4, fun t hd ht hno => h5 t hd (hl ▸ ht) (by simpa using hno), h6⟩

theorem evDraw_drawn (Γ : Ctx) (nm : Nat) (all : List Oper) (bs : List Nat) (m : Option (Nat × Nat)) (h : Heap) : ∀ (rest : List Oper) (j : Nat) (tm : List AV) (ds : List Heap) (tmF : List AV) (dsF : List Heap),
    (evDraw Γ nm all bs m h rest j tm ds).den = some (tmF, dsF) → Drawn Γ nm all bs m h rest j tm ds tmF dsF
  | [], j, tm, ds, tmF, dsF, he => by
    have := den_ret he
    cases this
    exact ⟨rfl, ⟨[], by simp, rfl⟩, fun t _ => .refl _, fun k o hk => by simp at hk⟩
  | o :: rest, j, tm, ds, tmF, dsF, he => by
    have run : ∀ tm0, tm0.length = tm.length → (∀ t, Eqv (tm0.getD t .top) (tm.getD t .top)) → Runs all o tm0 true →
        (drawRun Γ nm bs m h o j ds tm0 fun tm ds => evDraw Γ nm all bs m h rest (j + 1) tm ds).den = some (tmF, dsF) → Drawn Γ nm all bs m h (o :: rest) j tm ds tmF dsF := by
      intro tm0 hlen heq hrun he
      unfold drawRun at he
      cases hm : isM m j with
      | true =>
        rw [hm, cond_true] at he
        cases hmm : m with
        | none => rw [hmm] at hm; cases hm
        | some q =>
          obtain ⟨σ, n⟩ := q
          have hσ : j = σ := by rw [hmm] at hm; exact Nat.eq_of_beq_eq_true hm
          subst hσ
          have he : ((evMod Γ tm0 (h ++ pickD (bs.getD j 0) 0 ds) nm o n).bind fun r => bif fresh (delH m h ++ joinD ds) r.2 then evDraw Γ nm all bs m h rest (j + 1) (setD tm0 o.dst r.1) (ds ++ [r.2]) else .fail).den = some (tmF, dsF) := by
            rw [hmm] at he ⊢
            exact he
          obtain ⟨r, h1, h2⟩ := den_bind_some he
          generalize hfr : fresh (delH m h ++ joinD ds) r.2 = ok at h2
          cases ok with
          | false => exact (den_fail h2).elim
          | true =>
            rw [← hmm]
            refine Drawn.step hlen heq ⟨.inr ⟨n, hmm, hrun, ?_⟩⟩ hfr (evDraw_drawn Γ nm all bs _ h rest _ _ _ _ _ h2)
            have : opH m bs h j = h := by
              rw [hmm]
              unfold opH
              simp only [Nat.beq_refl, Bool.true_or, cond_true]
            rw [this]
            exact h1
      | false =>
        rw [hm, cond_false] at he
        split at he
        · obtain ⟨r, h1, h2⟩ := den_bind_some he
          generalize hfr : fresh (delH m h ++ joinD ds) r.2 = ok at h2
          cases ok with
          | false => exact (den_fail h2).elim
          | true => exact Drawn.step hlen heq ⟨.inl ⟨hm, .inl ⟨hrun, h1⟩⟩⟩ hfr (evDraw_drawn Γ nm all bs m h rest _ _ _ _ _ h2)
        · exact (den_fail he).elim
    have skip : ∀ tm0, tm0.length = tm.length → (∀ t, Eqv (tm0.getD t .top) (tm.getD t .top)) → Runs all o tm0 false →
        ((bif isM m j then .fail else evDraw Γ nm all bs m h rest (j + 1) (setD tm0 o.dst (.tup [])) (ds ++ [[]])) : T (List AV × List Heap)).den = some (tmF, dsF) → Drawn Γ nm all bs m h (o :: rest) j tm ds tmF dsF := by
      intro tm0 hlen heq hrun he
      cases hm : isM m j with
      | true => rw [hm, cond_true] at he; exact (den_fail he).elim
      | false =>
        rw [hm, cond_false] at he
        exact Drawn.step hlen heq ⟨.inl ⟨hm, .inr ⟨hrun, rfl, rfl⟩⟩⟩ rfl (evDraw_drawn Γ nm all bs m h rest _ _ _ _ _ he)
    unfold evDraw at he
    dsimp only at he
    have same : ∀ t, Eqv (tm.getD t .top) (tm.getD t .top) := fun t => .refl _
    cases hg : o.guard with
    | none =>
      rw [hg] at he
      exact run tm rfl same (by unfold Runs; rw [hg]) he
    | some gw =>
      obtain ⟨g, want⟩ := gw
      rw [hg] at he
      dsimp only at he
      split at he
      · exact (den_fail he).elim
      · rename_i d hd
        have mk : ∀ tm0 yes, ((∃ b, (tm0.getD d .top = .bl b ∨ tm0.getD d .top = .bs b) ∧ (b == want) = yes) ∨ (tm0.getD d .top = .tup [] ∧ yes = false)) → Runs all o tm0 yes := by
          intro tm0 yes h
          unfold Runs; rw [hg]
          exact ⟨d, hd, h⟩
        split at he
        · rename_i b hb
          cases hbw : (b == want) with
          | true => rw [hbw] at he; exact run tm rfl same (mk _ _ (.inl ⟨b, .inl hb, hbw⟩)) he
          | false => rw [hbw] at he; exact skip tm rfl same (mk _ _ (.inl ⟨b, .inl hb, hbw⟩)) he
        · rename_i b hb
          have hlt : d < tm.length := by
            by_cases hlt : d < tm.length
            · exact hlt
            · rw [List.getD_eq_getElem?_getD, List.getElem?_eq_none (by omega)] at hb; cases hb
          have hset : ∀ t, Eqv ((tm.set d (.bl b)).getD t .top) (tm.getD t .top) := by
            intro t
            rw [getD_set]
            split
            · rename_i h
              rw [← h.1, hb]; exact eqv_bl b
            · exact .refl _
          have hbl : (tm.set d (.bl b)).getD d .top = .bl b := by rw [getD_set, if_pos ⟨rfl, hlt⟩]
          rw [T.den] at he
          cases b with
          | true =>
            simp only [cond_true] at he
            cases want with
            | true => exact run _ List.length_set hset (mk _ _ (.inl ⟨true, .inl hbl, rfl⟩)) he
            | false => exact skip _ List.length_set hset (mk _ _ (.inl ⟨true, .inl hbl, rfl⟩)) he
          | false =>
            simp only [cond_false] at he
            cases want with
            | true => exact skip _ List.length_set hset (mk _ _ (.inl ⟨false, .inl hbl, rfl⟩)) he
            | false => exact run _ List.length_set hset (mk _ _ (.inl ⟨false, .inl hbl, rfl⟩)) he
        · rename_i hb
          exact skip tm rfl same (mk _ _ (.inr ⟨hb, rfl⟩)) he
        · exact (den_fail he).elim
end Go.Ab

/-
  Regions whose order is open: whatever the order, the machine does what the evaluator tells.
-/
namespace Go.Ab
open Go.RowKit

theorem hget_joinD_some {n : Nat} {b : Blk} : ∀ {ds : List Heap}, hget (joinD ds) n = some b → ∃ (i : Nat) (d : Heap), ds[i]? = some d ∧ hget d n = some b
  | [], h => by cases h
  | d :: r, h => by
    unfold joinD at h
    rw [hget_append] at h
    cases hd : hget d n with
    | some c =>
      rw [hd] at h
      exact ⟨0, d, rfl, by rw [hd]; exact h⟩
    | none =>
      rw [hd] at h
      obtain ⟨i, d', h1, h2⟩ := hget_joinD_some (ds := r) h
      exact ⟨i + 1, d', h1, h2⟩

theorem hget_joinD_none {n : Nat} : ∀ {ds : List Heap}, hget (joinD ds) n = none → ∀ (i : Nat) (d : Heap), ds[i]? = some d → hget d n = none
  | [], _, i, d, h => by simp at h
  | e :: r, h, i, d, hi => by
    unfold joinD at h
    rw [hget_append] at h
    cases hd : hget e n with
    | some c => rw [hd] at h; cases h
    | none =>
      rw [hd] at h
      cases i with
      | zero => simp at hi; subst hi; exact hd
      | succ i => exact hget_joinD_none (ds := r) h i d (by simpa using hi)

theorem hget_joinD_of {n : Nat} {b : Blk} : ∀ {ds : List Heap} {i : Nat} {d : Heap}, ds[i]? = some d → hget d n = some b → (∀ (i' : Nat) (d' : Heap), ds[i']? = some d' → i' ≠ i → hget d' n = none) → hget (joinD ds) n = some b
  | [], i, d, h, _, _ => by simp at h
  | e :: r, i, d, hi, hd, hno => by
    unfold joinD
    rw [hget_append]
    cases i with
    | zero => simp at hi; subst hi; rw [hd]; rfl
    | succ i =>
      rw [hno 0 e rfl (by omega)]
      exact hget_joinD_of (ds := r) (by simpa using hi) hd fun i' d' h1 h2 => hno (i' + 1) d' (by simpa using h1) (by omega)

theorem hget_pickD_some {x n : Nat} {b : Blk} : ∀ {ds : List Heap} {j : Nat}, hget (pickD x j ds) n = some b → ∃ (i : Nat) (d : Heap), ds[i]? = some d ∧ x.testBit (j + i) = true ∧ hget d n = some b
  | [], _, h => by cases h
  | d :: r, j, h => by
    unfold pickD at h
    have recu : hget (pickD x (j + 1) r) n = some b → ∃ (i : Nat) (d' : Heap), (d :: r)[i]? = some d' ∧ x.testBit (j + i) = true ∧ hget d' n = some b := by
      intro h
      obtain ⟨i, d', h1, h2, h3⟩ := hget_pickD_some h
      exact ⟨i + 1, d', by simpa using h1, by rw [show j + (i + 1) = j + 1 + i by omega]; exact h2, h3⟩
    cases ht : x.testBit j with
    | false => rw [ht] at h; exact recu h
    | true =>
      rw [ht] at h
      simp only [cond_true] at h
      rw [hget_append] at h
      cases hd : hget d n with
      | some c => rw [hd] at h; exact ⟨0, d, rfl, ht, by rw [hd]; exact h⟩
      | none => rw [hd] at h; exact recu h

theorem nodupN_spec {α : Type} (f : α → Option Nat) : ∀ (l : List α), drawOk.nodupN (l.filterMap f) = true → ∀ (i j : Nat) (x y : α) (t : Nat), i < j → l[i]? = some x → l[j]? = some y → f x = some t → f y ≠ some t
  | [], _, i, j, x, y, t, _, h, _, _ => by simp at h
  | a :: r, hn, i, j, x, y, t, hij, hi, hj, hx => by
    cases j with
    | zero => omega
    | succ j =>
      have hj' : r[j]? = some y := by simpa using hj
      cases hfa : f a with
      | none =>
        rw [List.filterMap_cons, hfa] at hn
        cases i with
        | zero => simp at hi; subst hi; rw [hfa] at hx; cases hx
        | succ i => exact nodupN_spec f r hn i j x y t (by omega) (by simpa using hi) hj' hx
      | some t' =>
        rw [List.filterMap_cons, hfa] at hn
        unfold drawOk.nodupN at hn
        simp only [Bool.and_eq_true, Bool.not_eq_true'] at hn
        cases i with
        | zero =>
          simp at hi; subst hi
          rw [hfa] at hx; cases hx
          intro hy
          have hm : t ∈ r.filterMap f := List.mem_filterMap.2 ⟨y, List.mem_of_getElem? hj', hy⟩
          have := List.any_eq_false.1 hn.1 t hm
          rw [Nat.beq_refl] at this
          exact this rfl
        | succ i => exact nodupN_spec f r hn.2 i j x y t (by omega) (by simpa using hi) hj' hx

theorem drawOk_spec {all : List Oper} {bs : List Nat} {p : Nat} (h : drawOk all bs p = true) :
    (∀ (i j : Nat) (x y : Oper) (t : Nat), i < j → (all.take p)[i]? = some x → (all.take p)[j]? = some y → x.dst = some t → y.dst ≠ some t) ∧
    (∀ (j : Nat) (o : Oper), j < p → all[j]? = some o → ∀ t ∈ looksT all o, ∀ i, i < p → slotOf all i = some t → (bs.getD j 0).testBit i = true) := by
  unfold drawOk at h
  simp only [Bool.and_eq_true] at h
  refine ⟨fun i j x y t hij hi hj hx => nodupN_spec (·.dst) _ h.1 i j x y t hij hi hj hx, fun j o hj ho t ht i hi hs => ?_⟩
  have h1 := List.all_eq_true.1 h.2 j (List.mem_range.2 hj)
  rw [ho] at h1
  have h2 := List.all_eq_true.1 h1 t ht
  have h3 := List.all_eq_true.1 h2 i (List.mem_range.2 hi)
  rw [hs] at h3
  simp only [Nat.beq_refl, Bool.not_true, Bool.false_or] at h3
  exact h3

theorem runs_wanted {β : Bt} {tm : List AV} {a : Act} (ht : VReps β tm a.tmps.toList) {ops : Array Oper} {all : List Oper} (hall : all = ops.toList) {o : Oper} {yes : Bool} (h : Runs all o tm yes) : Region.wanted o (yielded ops a.tmps) = yes := by
  unfold Runs at h
  unfold Region.wanted
  cases hg : o.guard with
  | none => rw [hg] at h; exact h.symm
  | some gw =>
    obtain ⟨g, want⟩ := gw
    rw [hg] at h
    obtain ⟨sl, h1, h2⟩ := h
    rw [slotOf_dst hall] at h1
    dsimp only
    rcases h2 with ⟨b, h3, h4⟩ | ⟨h3, h4⟩
    · rw [bool_slot ht h1 h3, ← h4]
      cases b <;> cases want <;> rfl
    · rw [tup_slot ht h1 h3, h4]; rfl

theorem VReps.mk' {β : Bt} : ∀ {l : List AV} {us : List Value}, l.length = us.length → (∀ t, t < l.length → VRep β (l.getD t .top) (us.getD t undef)) → VReps β l us
  | [], [], _, _ => .nil
  | [], _ :: _, h, _ => by simp at h
  | _ :: _, [], h, _ => by simp at h
  | v :: r, u :: s, h, hv => .cons _ _ _ _ (by simpa using hv 0 (by simp)) (VReps.mk' (by simpa using h) fun t ht => by simpa using hv (t + 1) (by simpa using ht))

section
variable {P : Program} {Γ : Ctx} {base : Nat} {ops : Array Oper} {Q : Exit → Act → World → Prop} {nm : Nat} {all : List Oper} {p : Nat} {s : St} {tmF : List AV} {dsF : List Heap} {β : Bt} {w0 : World} {m : Option (Nat × Nat)}

/-- While the first p operations come in any order: those of L have come. -/
structure PA (all : List Oper) (m : Option (Nat × Nat)) (p base : Nat) (s : St) (tmF : List AV) (dsF : List Heap) (β : Bt) (w0 : World) (L : Nat → Prop) (a : Act) (w : World) : Prop where
  closed : Closed all L
  low : ∀ i, L i → i < p
  ex : ∃ β' H, β.le β' ∧ Rep β' H w base ∧ base ≤ w.heap.size ∧ Below base w0 w ∧ a.defers = [] ∧ a.tmps.size = tmF.length ∧
    (∀ n b, hget H n = some b ↔ hget (delH m s.hp) n = some b ∨ (∃ σ, m = some (σ, n) ∧ ¬ L σ ∧ hget s.hp n = some b) ∨ ∃ i d, L i ∧ dsF[i]? = some d ∧ hget d n = some b) ∧
    (∀ t, t < tmF.length → (∀ i, i < p → slotOf all i = some t → L i) → VRep β' (tmF.getD t .top) (a.tmps.getD t undef))

/-- names are new, each -/
theorem drawn_apart {bs : List Nat} (hD : Drawn Γ nm all bs m s.hp (all.take p) 0 s.tm [] tmF dsF) {j : Nat} {d : Heap} (hj : dsF[j]? = some d) : Dist d ∧ (∀ n b, hget d n = some b → hget (delH m s.hp) n = none) ∧ ∀ i d', i < j → dsF[i]? = some d' → ∀ n b, hget d n = some b → hget d' n = none := by
  obtain ⟨r, hr1, hr2⟩ := hD.more
  simp only [List.nil_append] at hr1
  subst hr1
  have hlt := (List.getElem?_eq_some_iff.1 hj).1
  obtain ⟨tmk, v, d', h1, _, _, _, _, h6⟩ := hD.each j _ (List.getElem?_eq_getElem (by omega))
  simp only [List.length_nil, Nat.zero_add] at h1 h6
  rw [hj] at h1; cases h1
  obtain ⟨h7, h8⟩ := fresh_spec _ _ h6
  refine ⟨h8, fun n b hn => ?_, fun i d' hi hd' n b hn => ?_⟩
  · have := h7 n b hn
    rw [hget_append] at this
    cases hg : hget (delH m s.hp) n with
    | none => rfl
    | some c => rw [hg] at this; cases this
  · have := h7 n b hn
    rw [hget_append] at this
    cases hg : hget (delH m s.hp) n with
    | some c => rw [hg] at this; cases this
    | none =>
      rw [hg] at this
      exact hget_joinD_none this i d' (by rw [List.getElem?_take, if_pos hi]; exact hd')

theorem drawn_apart' {bs : List Nat} (hD : Drawn Γ nm all bs m s.hp (all.take p) 0 s.tm [] tmF dsF) {i j : Nat} {d d' : Heap} (hi : dsF[i]? = some d) (hj : dsF[j]? = some d') (hij : i ≠ j) {n : Nat} {b : Blk} (hn : hget d n = some b) : hget d' n = none := by
  rcases Nat.lt_or_gt_of_ne hij with h | h
  · cases hg : hget d' n with
    | none => rfl
    | some c => rw [(drawn_apart hD hj).2.2 i d h hi n c hg] at hn; cases hn
  · exact (drawn_apart hD hi).2.2 j d' h hj n b hn

/-- what the one that turns memory leaves -/
theorem mod_has {bs : List Nat} (hD : Drawn Γ nm all bs m s.hp (all.take p) 0 s.tm [] tmF dsF) (hp : p ≤ all.length) (hm : ∀ σ n, m = some (σ, n) → σ < p) {σ n0 : Nat} (e : m = some (σ, n0)) : ∃ d b, dsF[σ]? = some d ∧ hget d n0 = some b := by
  have hσ := hm σ n0 e
  obtain ⟨tmk, v, d, h1, _, _, h4, _, _⟩ := hD.each σ all[σ] (by rw [List.getElem?_take, if_pos hσ, List.getElem?_eq_getElem (by omega)])
  simp only [List.length_nil, Nat.zero_add] at h1 h4
  rcases h4.is with ⟨h5, _⟩ | ⟨n, h5, _, h6⟩
  · rw [e, isM_self] at h5
    cases h5
  · rw [e] at h5
    cases h5
    obtain ⟨b, hb⟩ := evMod_has h6
    exact ⟨d, b, h1, hb⟩

theorem PA.step (hΓ : CtxOk P Γ) (hp : p ≤ all.length) (hm : ∀ σ n, m = some (σ, n) → σ < p) (hall : all = ops.toList) (hback : backFrom 0 all = true) (hok : drawOk all (befores all) p = true) (hD : Drawn Γ nm all (befores all) m s.hp (all.take p) 0 s.tm [] tmF dsF)
    {L : Nat → Prop} {a : Act} {w : World} (hA : PA all m p base s tmF dsF β w0 L a w) {j : Nat} {o : Oper} (hj : j < p) (hnot : ¬ L j) (ho : all[j]? = some o) (hin : ∀ e ∈ o.after.toList, Region.binds .any e = true → L e.on) (hop : operOk o = true)
    {K : Act → World → Prop} (hK : ∀ a' w', PA all m p base s tmF dsF β w0 (fun i => L i ∨ i = j) a' w' → K a' w') :
    if Region.wanted o (yielded ops a.tmps) then o.wp P a w K Q ∨ (o.asks P a w ∧ LetsOut Q) else K (a.put o.dst undef) w := by
  obtain ⟨β', H, hle, hr, hb, hbel, hdef, hsz, hH, htm⟩ := hA.ex
  obtain ⟨hnod, hlook⟩ := drawOk_spec hok
  have hoT : (all.take p)[j]? = some o := by rw [List.getElem?_take, if_pos hj]; exact ho
  have hslot : slotOf all j = o.dst := by unfold slotOf; rw [ho]; rfl
  obtain ⟨tmj, v, d, g1, g2, g3, g4, g5, g6⟩ := hD.each j o hoT
  simp only [List.length_nil, Nat.zero_add] at g1 g4 g6
  have hlenF : tmF.length = tmj.length := by rw [hD.len, g2]
  -- who writes what it looks at has come
  have hwr : ∀ t, t ∈ looksT all o → ∀ i, i < p → slotOf all i = some t → L i ∧ i < j := fun t ht i hi hs => by
    have hbit := hlook j o hj ho t ht i hi hs
    exact ⟨ahead_in hA.closed j o ho hin i hbit, bit_lt hback j o ho i hbit⟩
  have hnoD : ∀ t, t ∈ looksT all o → NoDst ((all.take p).drop j) t := by
    intro t ht o' ho' hd'
    obtain ⟨k, hk⟩ := List.getElem?_of_mem ho'
    rw [List.getElem?_drop, List.getElem?_take] at hk
    split at hk
    · rename_i hlt
      have := (hwr t ht (j + k) hlt (by unfold slotOf; rw [hk]; exact hd')).2
      omega
    · cases hk
  let tm' : List AV := (List.range tmF.length).map fun t => if t ∈ looksT all o then tmj.getD t .top else .top
  have hget' : ∀ t, t ∈ looksT all o → tm'.getD t .top = tmj.getD t .top := by
    intro t ht
    by_cases hlt : t < tmF.length
    · simp [tm', List.getD_eq_getElem?_getD, List.getElem?_map, List.getElem?_range hlt, ht]
    · rw [List.getD_eq_getElem?_getD, List.getD_eq_getElem?_getD, List.getElem?_eq_none (by simp [tm']; omega), List.getElem?_eq_none (by omega)]
  have htm' : VReps β' tm' a.tmps.toList := by
    refine VReps.mk' (by simp [tm', hsz]) fun t ht => ?_
    have ht2 : t < tmF.length := by simpa [tm'] using ht
    have ha : a.tmps.toList.getD t undef = a.tmps.getD t undef := by simp [Array.getD_eq_getD_getElem?]
    rw [ha]
    by_cases hm : t ∈ looksT all o
    · rw [hget' t hm]
      exact (g3 t (hnoD t hm) _ _).1 (htm t ht2 fun i hi hs => (hwr t hm i hi hs).1)
    · have : tm'.getD t .top = .top := by simp [tm', List.getD_eq_getElem?_getD, List.getElem?_map, List.getElem?_range ht2, hm]
      rw [this]; exact .top _
  have hruns : ∀ yes, Runs all o tmj yes → Runs all o tm' yes := by
    intro yes h
    unfold Runs at *
    cases hg : o.guard with
    | none => rw [hg] at h; exact h
    | some gw =>
      rw [hg] at h
      obtain ⟨sl, h1, h2⟩ := h
      refine ⟨sl, h1, ?_⟩
      rw [hget' sl (by unfold looksT; rw [hg]; exact List.mem_append_right _ (by simp [h1]))]
      exact h2
  -- what holds behind it
  have after : ∀ (u : Value) (w' : World) (β2 : Bt) (H2 : Heap), β'.le β2 → Rep β2 H2 w' base → base ≤ w'.heap.size → Below base w w' → VRep β2 v u →
      (∀ n b, hget H2 n = some b ↔ hget (delH m s.hp) n = some b ∨ (∃ σ, m = some (σ, n) ∧ ¬ (L σ ∨ σ = j) ∧ hget s.hp n = some b) ∨ ∃ i d, (L i ∨ i = j) ∧ dsF[i]? = some d ∧ hget d n = some b) →
      PA all m p base s tmF dsF β w0 (fun i => L i ∨ i = j) (a.put o.dst u) w' := by
    intro u w' β2 H2 k1 k2 k3 k4 k5 k6
    refine ⟨fun i o' hi ho' e he hbd => ?_, fun i hi => ?_, β2, H2, hle.trans k1, k2, k3, hbel.trans k4, by rw [put_defers]; exact hdef, ?_, k6, fun t ht hall' => ?_⟩
    · rcases hi with hi | rfl
      · exact .inl (hA.closed i o' hi ho' e he hbd)
      · rw [ho] at ho'; cases ho'; exact .inl (hin e he hbd)
    · rcases hi with hi | rfl
      · exact hA.low i hi
      · exact hj
    · cases o.dst with
      | none => exact hsz
      | some d' => simpa [Act.put] using hsz
    · by_cases hd' : o.dst = some t
      · have hno : NoDst ((all.take p).drop (j + 1)) t := by
          intro o' ho' hd2
          obtain ⟨k, hk⟩ := List.getElem?_of_mem ho'
          rw [List.getElem?_drop] at hk
          exact hnod j (j + 1 + k) o o' t (by omega) hoT hk hd' hd2
        have hput : (a.put o.dst u).tmps.getD t undef = u := by
          rw [hd']
          have : t < a.tmps.size := by omega
          simp [Act.put, Array.getD_eq_getD_getElem?, this]
        rw [hput]
        exact (g5 t hd' (by rw [← hD.len]; exact ht) hno _ _).2 k5
      · have hput : (a.put o.dst u).tmps.getD t undef = a.tmps.getD t undef := by
          cases hdd : o.dst with
          | none => rfl
          | some d' =>
            have : d' ≠ t := fun e => hd' (by rw [hdd, e])
            simp [Act.put, Array.getD_eq_getD_getElem?, Array.getElem?_setIfInBounds_ne this]
        rw [hput]
        refine (htm t ht fun i hi hs => ?_).mono k1
        rcases hall' i hi hs with h | rfl
        · exact h
        · rw [hslot] at hs; exact absurd hs hd'
  have plain : isM m j = false → ∀ H2, (∀ n b, hget H2 n = some b ↔ hget H n = some b ∨ hget d n = some b) → ∀ n b, hget H2 n = some b ↔ hget (delH m s.hp) n = some b ∨ (∃ σ, m = some (σ, n) ∧ ¬ (L σ ∨ σ = j) ∧ hget s.hp n = some b) ∨ ∃ i d, (L i ∨ i = j) ∧ dsF[i]? = some d ∧ hget d n = some b := by
    intro hmj H2 k6 n b
    have hne : ∀ σ n, m = some (σ, n) → σ ≠ j := fun σ n e e2 => by
      rw [e, e2, isM_self] at hmj
      cases hmj
    rw [k6, hH]
    constructor
    · rintro ((h | ⟨σ, e1, e2, e3⟩ | ⟨i, d', h1, h2⟩) | h)
      · exact .inl h
      · exact .inr (.inl ⟨σ, e1, fun hl => hl.elim e2 (hne σ n e1), e3⟩)
      · exact .inr (.inr ⟨i, d', .inl h1, h2⟩)
      · exact .inr (.inr ⟨j, d, .inr rfl, g1, h⟩)
    · rintro (h | ⟨σ, e1, e2, e3⟩ | ⟨i, d', h1 | rfl, h2, h3⟩)
      · exact .inl (.inl h)
      · exact .inl (.inr (.inl ⟨σ, e1, fun hl => e2 (.inl hl), e3⟩))
      · exact .inl (.inr (.inr ⟨i, d', h1, h2, h3⟩))
      · rw [g1] at h2; cases h2; exact .inr h3
  have hnL : ∀ σ n, m = some (σ, n) → (j = σ ∨ ((befores all).getD σ 0).testBit j = true) → ¬ L σ := by
    intro σ n e h hl
    rcases h with rfl | h
    · exact hnot hl
    · have hlt := bit_in h
      have hoσ : all[σ]? = some all[σ] := List.getElem?_eq_getElem hlt
      exact hnot (ahead_in hA.closed σ _ hoσ (fun e' he' hb' => hA.closed σ _ hl hoσ e' he' hb') j h)
  have hsub : Sub (opH m (befores all) s.hp j ++ pickD ((befores all).getD j 0) 0 (dsF.take j)) H := by
    intro n b hn
    rw [hget_append] at hn
    cases hg : hget (opH m (befores all) s.hp j) n with
    | some c =>
      rw [hg] at hn
      have hn : some c = some b := hn
      cases hn
      cases hmm : m with
      | none =>
        rw [hmm] at hg
        exact (hH n b).2 (.inl (by rw [hmm]; exact hg))
      | some q =>
        obtain ⟨σ, n0⟩ := q
        rw [hmm] at hg
        unfold opH at hg
        simp only at hg
        cases hc : (Nat.beq j σ || ((befores all).getD σ 0).testBit j) with
        | true =>
          rw [hc, cond_true] at hg
          have hl := hnL σ n0 hmm (by
            rw [Bool.or_eq_true] at hc
            exact hc.imp Nat.eq_of_beq_eq_true id)
          by_cases e : n = n0
          · subst e
            exact (hH n b).2 (.inr (.inl ⟨σ, hmm, hl, hg⟩))
          · exact (hH n b).2 (.inl (del_keep hg fun σ' e' => by rw [hmm] at e'; cases e'; exact e rfl))
        | false =>
          rw [hc, cond_false] at hg
          exact (hH n b).2 (.inl (by rw [hmm]; exact hg))
    | none =>
      rw [hg] at hn
      obtain ⟨i, d', h1, h2, h3⟩ := hget_pickD_some hn
      rw [List.getElem?_take] at h1
      split at h1
      · exact (hH n b).2 (.inr (.inr ⟨i, d', ahead_in hA.closed j o ho hin i (by simpa using h2), h1, h3⟩))
      · cases h1
  obtain ⟨hdist, hnew, _⟩ := drawn_apart hD g1
  have tmx : ∀ x ∈ o.op.operands, opv tm' x = opv tmj x := fun x hx => by
    cases x with
    | tmp t => exact hget' t (by unfold looksT; exact List.mem_append_left _ (List.mem_filterMap.2 ⟨.tmp t, by simpa using hx, rfl⟩))
    | _ => rfl
  rcases g4.is with ⟨hmj, ⟨hrun, he⟩ | ⟨hrun, rfl, rfl⟩⟩ | ⟨n0, hmj, hrun, he⟩
  · rw [runs_wanted htm' hall (hruns _ hrun), if_pos rfl]
    have hcong := evOpA_congr Γ (opH m (befores all) s.hp j ++ pickD ((befores all).getD j 0) 0 (dsF.take j)) nm o tmx
    have hHd : ∀ n b, hget d n = some b → hget H n = none := by
      intro n b hn
      cases hg : hget H n with
      | none => rfl
      | some c =>
        rcases (hH n c).1 hg with h | ⟨σ, e1, e2, e3⟩ | ⟨i, d', h1, h2, h3⟩
        · rw [hnew n b hn] at h; cases h
        · obtain ⟨dσ, bσ, q1, q2⟩ := mod_has hD hp hm e1
          have hne : j ≠ σ := fun e => by
            rw [e1, e, isM_self] at hmj
            cases hmj
          rw [drawn_apart' hD g1 q1 hne hn] at q2; cases q2
        · rw [drawn_apart' hD g1 h2 (fun e => hnot (by rw [e]; exact h1)) hn] at h3; cases h3
    have hO := evOpA_sound (a := a) hΓ hsub hr htm' nm o hop (v, d) (by rw [hcong]; exact he) hdist (fun n b hn => hr.dom n (hHd n b hn))
    refine .inl (hO.wp fun u w' hp => ?_)
    obtain ⟨β2, k1, k2, k3, k4⟩ := add_post hr hb hp
    refine hK _ _ (after u w' β2 _ k1 k2 (k4.size_le' hb) k4 k3 (plain hmj _ fun n b => ?_))
    rw [hget_append]
    constructor
    · intro h
      cases hg : hget H n with
      | some c => rw [hg] at h; exact .inl h
      | none => rw [hg] at h; exact .inr h
    · rintro (h | h)
      · rw [h]; rfl
      · rw [hHd n b h]; exact h
  · rw [runs_wanted htm' hall (hruns _ hrun), if_neg Bool.false_ne_true]
    exact hK _ _ (after undef w β' H (Bt.le_refl _) hr hb (Below.refl _ _) (undef_rep _) (plain hmj H fun n b => by simp [hget]))
  · rw [runs_wanted htm' hall (hruns _ hrun), if_pos rfl]
    have hcong := evMod_congr Γ (opH m (befores all) s.hp j ++ pickD ((befores all).getD j 0) 0 (dsF.take j)) nm o n0 tmx
    obtain ⟨b0, hb0⟩ := evMod_has he
    have hHd : ∀ n b, hget d n = some b → n ≠ n0 → hget H n = none := by
      intro n b hn hne
      cases hg : hget H n with
      | none => rfl
      | some c =>
        rcases (hH n c).1 hg with h | ⟨σ, e1, e2, e3⟩ | ⟨i, d', h1, h2, h3⟩
        · rw [hnew n b hn] at h; cases h
        · rw [hmj] at e1; cases e1; exact absurd rfl hne
        · rw [drawn_apart' hD g1 h2 (fun e => hnot (by rw [e]; exact h1)) hn] at h3; cases h3
    have hO := evMod_sound (a := a) hΓ hsub hr hb htm' nm o hop n0 (v, d) (by rw [hcong]; exact he) hHd
    refine .inl (hO.wp fun u w' ⟨β2, H2, k1, k2, k3, k4, k5⟩ => ?_)
    refine hK _ _ (after u w' β2 H2 k1 k2 (k4.size_le' hb) k4 k3 fun n b => ?_)
    rw [k5]
    constructor
    · rintro (⟨hne, h⟩ | h)
      · rcases (hH n b).1 h with h | ⟨σ, e1, e2, e3⟩ | ⟨i, d', h1, h2⟩
        · exact .inl h
        · rw [hmj] at e1; cases e1; exact absurd rfl hne
        · exact .inr (.inr ⟨i, d', .inl h1, h2⟩)
      · exact .inr (.inr ⟨j, d, .inr rfl, g1, h⟩)
    · rintro (h | ⟨σ, e1, e2, e3⟩ | ⟨i, d', h1 | rfl, h2, h3⟩)
      · refine .inl ⟨fun e => (del_some h).2 j (by rw [hmj, e]), (hH n b).2 (.inl h)⟩
      · rw [hmj] at e1; cases e1; exact absurd (.inr rfl) e2
      · refine .inl ⟨fun e => ?_, (hH n b).2 (.inr (.inr ⟨i, d', h1, h2, h3⟩))⟩
        subst e
        rw [drawn_apart' hD h2 g1 (fun e => hnot (by rw [← e]; exact h1)) h3] at hb0; cases hb0
      · rw [g1] at h2; cases h2; exact .inr h3
end
end Go.Ab

/-
  Regions.
-/
namespace Go.Ab
open Go.RowKit

def Lof (listed : Array Bool) (i : Nat) : Prop := listed[i]? = some true

theorem mem_ready {ops : Array Oper} {listed : Array Bool} (hsz : listed.size = ops.size) {i : Nat} (h : i ∈ Region.ready .any ops listed) :
    ∃ o, ops[i]? = some o ∧ listed[i]? = some false ∧ ∀ e ∈ o.after.toList, Region.binds .any e = true → Lof listed e.on := by
  unfold Region.ready at h
  rw [List.mem_filter] at h
  obtain ⟨h1, h2⟩ := h
  have hlt : i < ops.size := List.mem_range.1 h1
  have ho : ops[i]? = some ops[i] := Array.getElem?_eq_getElem hlt
  rw [ho] at h2
  simp only [Bool.and_eq_true, Bool.not_eq_true', Option.map_some, Option.getD_some] at h2
  refine ⟨ops[i], ho, ?_, fun e he hb => ?_⟩
  · have hl : listed[i]? = some (listed[i]'(by omega)) := Array.getElem?_eq_getElem (by omega)
    have := h2.1
    rw [Array.getD_eq_getD_getElem?, hl] at this
    rw [hl]; simpa using this
  · have h3 := (Array.all_eq_true_iff_forall_mem.1 h2.2) e (by simpa using he)
    rw [hb] at h3
    simp only [Bool.not_true, Bool.false_or] at h3
    unfold Lof
    rw [Array.getD_eq_getD_getElem?] at h3
    cases hl : listed[e.on]? with
    | none => rw [hl] at h3; simp at h3
    | some b => rw [hl] at h3; simp at h3; rw [h3]

theorem ready_nil {ops : Array Oper} {listed : Array Bool} (hsz : listed.size = ops.size) (hback : backFrom 0 ops.toList = true) (h : Region.ready .any ops listed = []) : ∀ i, i < ops.size → Lof listed i := by
  intro i
  induction i using Nat.strongRecOn with
  | ind i ih =>
    intro hi
    have hl : listed[i]? = some (listed[i]'(by omega)) := Array.getElem?_eq_getElem (by omega)
    cases hb : listed[i]'(by omega) with
    | true => unfold Lof; rw [hl, hb]
    | false =>
      exfalso
      have hm : i ∈ Region.ready .any ops listed := by
        unfold Region.ready
        rw [List.mem_filter]
        refine ⟨List.mem_range.2 hi, ?_⟩
        have ho : ops[i]? = some ops[i] := Array.getElem?_eq_getElem hi
        rw [ho]
        simp only [Bool.and_eq_true, Bool.not_eq_true', Option.map_some, Option.getD_some]
        refine ⟨by rw [Array.getD_eq_getD_getElem?, hl, hb]; rfl, Array.all_eq_true_iff_forall_mem.2 fun e he => ?_⟩
        cases hbd : Region.binds .any e with
        | false => rfl
        | true =>
          have hlt := backFrom_get hback (by rw [Array.getElem?_toList]; exact ho) e (by simpa using he) hbd
          rw [Nat.zero_add] at hlt
          have := ih e.on hlt (by omega)
          unfold Lof at this
          rw [Array.getD_eq_getD_getElem?, this]; simp
      rw [h] at hm; cases hm

theorem lof_set {listed : Array Bool} {i : Nat} (hi : i < listed.size) : Lof (listed.setIfInBounds i true) = fun k => Lof listed k ∨ k = i := by
  funext k
  apply propext
  unfold Lof
  by_cases e : i = k
  · subst e
    simp [hi]
  · rw [Array.getElem?_setIfInBounds_ne e]
    constructor
    · exact .inl
    · rintro (h | h)
      · exact h
      · exact absurd h.symm e

def open_ (listed : Array Bool) : Nat := listed.toList.count false

theorem count_set : ∀ (l : List Bool) (i : Nat), l[i]? = some false → (l.set i true).count false + 1 = l.count false
  | [], i, h => by simp at h
  | b :: r, 0, h => by simp at h; subst h; simp
  | b :: r, i + 1, h => by
    have := count_set r i (by simpa using h)
    rw [List.set_cons_succ, List.count_cons, List.count_cons]
    omega

theorem open_set {listed : Array Bool} {i : Nat} (h : listed[i]? = some false) : open_ (listed.setIfInBounds i true) + 1 = open_ listed := by
  unfold open_
  rw [Array.toList_setIfInBounds]
  exact count_set _ i (by rw [Array.getElem?_toList]; exact h)

theorem open_zero {listed : Array Bool} (h : open_ listed = 0) : ∀ i : Nat, listed[i]? ≠ some false := by
  intro i hi
  have := open_set hi
  omega

section
variable {P : Program} {Γ : Ctx} {base : Nat} {ops : Array Oper} {Q : Exit → Act → World → Prop} {nm : Nat} {all : List Oper} {p : Nat} {s : St} {tmF : List AV} {dsF : List Heap} {β : Bt} {w0 : World} {m : Option (Nat × Nat)}

theorem PA.done (hmod : ∀ σ n, m = some (σ, n) → σ < p) (hD : Drawn Γ nm all (befores all) m s.hp (all.take p) 0 s.tm [] tmF dsF) (hp : p ≤ all.length) {L : Nat → Prop} {a : Act} {w : World} (hA : PA all m p base s tmF dsF β w0 L a w) (hL : ∀ i, i < p → L i) :
    After β w0 base ⟨tmF, delH m s.hp ++ joinD dsF⟩ a w := by
  obtain ⟨β', H, hle, hr, hb, hbel, hdef, hsz, hH, htm⟩ := hA.ex
  refine ⟨β', hle, ⟨VReps.mk' (by simp [hsz]) fun t ht => ?_, hr.congr fun n => ?_, hb, hdef⟩, hbel⟩
  · have ha : a.tmps.toList.getD t undef = a.tmps.getD t undef := by simp [Array.getD_eq_getD_getElem?]
    rw [ha]
    exact htm t ht fun i hi _ => hL i hi
  · have hlen : dsF.length = p := by
      obtain ⟨r, h1, h2⟩ := hD.more
      simp only [List.nil_append] at h1
      rw [h1, h2, List.length_take]; omega
    have key : ∀ b, hget (delH m s.hp ++ joinD dsF) n = some b ↔ hget H n = some b := by
      intro b
      rw [hH, hget_append]
      constructor
      · intro h
        cases hg : hget (delH m s.hp) n with
        | some c => rw [hg] at h; exact .inl h
        | none =>
          rw [hg] at h
          obtain ⟨i, d, h1, h2⟩ := hget_joinD_some h
          exact .inr (.inr ⟨i, d, hL i (by have := (List.getElem?_eq_some_iff.1 h1).1; omega), h1, h2⟩)
      · rintro (h | ⟨σ, e1, e2, _⟩ | ⟨i, d, _, h2, h3⟩)
        · rw [h]; rfl
        · exact absurd (hL σ (hmod σ n e1)) e2
        · rw [(drawn_apart hD h2).2.1 n b h3]
          exact hget_joinD_of h2 h3 fun i' d' h4 h5 => drawn_apart' hD h2 h4 (fun e => h5 e.symm) h3
    cases hg : hget H n with
    | some b => exact (key b).2 hg
    | none =>
      cases hg2 : hget (delH m s.hp ++ joinD dsF) n with
      | none => rfl
      | some b => rw [(key b).1 hg2] at hg; cases hg

/-- From here on one by one. -/
structure PB (Γ : Ctx) (call : CallF) (nm : Nat) (all : List Oper) (p base : Nat) (β : Bt) (w0 : World) (s' : St) (L : Nat → Prop) (a : Act) (w : World) : Prop where
  ex : ∃ k s1, p ≤ k ∧ k ≤ all.length ∧ (∀ i, L i ↔ i < k) ∧ After β w0 base s1 a w ∧ (evOps Γ call nm all (all.drop k) s1).den = some s'

theorem wpAny_draw {call : CallF} (hmod : ∀ σ n, m = some (σ, n) → σ < p) (hΓ : CtxOk P Γ) (hcall : CallsOk P call) (hall : all = ops.toList) (hback : backFrom 0 all = true) (hop : all.all operOk = true) (hpe : p = tailFrom (befores all) all.length) (hok : drawOk all (befores all) p = true)
    (hD : Drawn Γ nm all (befores all) m s.hp (all.take p) 0 s.tm [] tmF dsF) {s' : St} (he : (evOps Γ call nm all (all.drop p) ⟨tmF, delH m s.hp ++ joinD dsF⟩).den = some s') (hQ : ∀ a' w', After β w0 base s' a' w' → Q .normal a' w') :
    ∀ (fuel : Nat) (listed : Array Bool) (a : Act) (w : World), open_ listed ≤ fuel → listed.size = ops.size →
      (PA all m p base s tmF dsF β w0 (Lof listed) a w ∨ PB Γ call nm all p base β w0 s' (Lof listed) a w) → wpAny P .any ops Q fuel listed a w := by
  have hn : all.length = ops.size := by rw [hall, Array.length_toList]
  obtain ⟨hp, htail⟩ := tailFrom_spec (befores all) all.length
  rw [← hpe] at hp htail
  have getO : ∀ i, all[i]? = ops[i]? := fun i => by rw [hall, Array.getElem?_toList]
  -- all have come
  have fin : ∀ (listed : Array Bool) (a : Act) (w : World), listed.size = ops.size → (PA all m p base s tmF dsF β w0 (Lof listed) a w ∨ PB Γ call nm all p base β w0 s' (Lof listed) a w) → Region.ready .any ops listed = [] → Q .normal a w := by
    intro listed a w hsz hI hnil
    have hL := ready_nil hsz (hall ▸ hback) hnil
    rcases hI with hA | ⟨k, s1, h1, h2, h3, h4, h5⟩
    · have hpn : p = all.length := by
        rcases Nat.lt_or_ge p all.length with h | h
        · have := hA.low p (hL p (by omega)); omega
        · omega
      have := PA.done hmod hD hp hA fun i hi => hL i (by omega)
      have hd : all.drop p = [] := List.drop_eq_nil_of_le (by omega)
      rw [hd] at he
      have := den_ret he
      subst this
      exact hQ a w ‹_›
    · have hk : k = all.length := by
        rcases Nat.lt_or_ge k all.length with h | h
        · have := (h3 k).1 (hL k (by omega)); omega
        · omega
      have hd : all.drop k = [] := List.drop_eq_nil_of_le (by omega)
      rw [hd] at h5
      have := den_ret h5
      subst this
      exact hQ a w h4
  -- one of those behind the first p
  have tailStep : ∀ (fuel : Nat) (ih : ∀ (listed : Array Bool) (a : Act) (w : World), open_ listed ≤ fuel → listed.size = ops.size →
      (PA all m p base s tmF dsF β w0 (Lof listed) a w ∨ PB Γ call nm all p base β w0 s' (Lof listed) a w) → wpAny P .any ops Q fuel listed a w) (listed : Array Bool) (a : Act) (w : World) (i : Nat) (o : Oper), open_ listed ≤ fuel + 1 → listed.size = ops.size → ops[i]? = some o → listed[i]? = some false →
      PB Γ call nm all p base β w0 s' (Lof listed) a w → (∀ m, m < i → Lof listed m) → wpOp P ops Q i (wpAny P .any ops Q fuel (listed.setIfInBounds i true)) a w := by
    intro fuel ih listed a w i o hfuel hsz ho hl ⟨k, s1, h1, h2, h3, ⟨β1, h4, h5, h6⟩, h7⟩ hm
    have hik : i = k := by
      have h8 : ¬ i < k := fun h => by have := (h3 i).2 h; unfold Lof at this; rw [hl] at this; cases this
      rcases Nat.lt_or_ge k i with h | h
      · have := (h3 k).1 (hm k h); omega
      · omega
    subst hik
    unfold wpOp
    rw [ho]
    have hilt : i < all.length := by rw [hn]; exact (Array.getElem?_eq_some_iff.1 ho).1
    have hdrop : all.drop i = o :: all.drop (i + 1) := by
      rw [List.drop_eq_getElem_cons hilt]
      have := getO i
      rw [ho, List.getElem?_eq_getElem hilt] at this
      cases this; rfl
    rw [hdrop] at h7
    refine evOps_step hΓ hcall h5 nm hall (List.all_eq_true.1 hop o (List.mem_of_getElem? (by rw [getO]; exact ho))) h7 fun β2 s2 a2 w2 g1 g2 g3 g4 => ?_
    refine ih _ _ _ (by have := open_set hl; omega) (by simpa using hsz) (.inr ⟨i + 1, s2, by omega, by omega, fun m => ?_, ⟨β2, h4.trans g1, g2, h6.trans g3⟩, g4⟩)
    rw [lof_set (by rw [hsz]; omega)]
    show (Lof listed m ∨ m = i) ↔ m < i + 1
    rw [h3]
    omega
  intro fuel
  induction fuel with
  | zero =>
    intro listed a w hf hsz hI
    have hnil : Region.ready .any ops listed = [] := by
      cases hr : Region.ready .any ops listed with
      | nil => rfl
      | cons i r =>
        obtain ⟨o, h1, h2, _⟩ := mem_ready hsz (i := i) (by rw [hr]; exact List.mem_cons_self)
        exact absurd h2 (open_zero (by omega) i)
    exact ⟨hnil, fin listed a w hsz hI hnil⟩
  | succ fuel ih =>
    intro listed a w hf hsz hI
    refine ⟨fin listed a w hsz hI, fun i hi => ?_⟩
    obtain ⟨o, ho, hl, hin⟩ := mem_ready hsz hi
    have hilt : i < ops.size := (Array.getElem?_eq_some_iff.1 ho).1
    have hnot : ¬ Lof listed i := fun h => by unfold Lof at h; rw [hl] at h; cases h
    have hoA : all[i]? = some o := by rw [getO]; exact ho
    rcases hI with hA | hB
    · by_cases hip : i < p
      · unfold wpOp
        rw [ho]
        refine PA.step hΓ hp hmod hall hback hok hD hA hip hnot hoA hin (List.all_eq_true.1 hop o (List.mem_of_getElem? hoA)) fun a' w' h => ?_
        refine ih _ _ _ (by have := open_set hl; omega) (by simpa using hsz) (.inl ?_)
        rw [lof_set (by rw [hsz]; exact hilt)]; exact h
      · have hm : ∀ m, m < i → Lof listed m := fun m hm => ahead_in hA.closed i o hoA hin m (htail i (by omega) (by omega) m hm)
        have hi' : i = p := by
          rcases Nat.lt_or_ge p i with h | h
          · have := hA.low p (hm p h); omega
          · omega
        refine tailStep fuel ih listed a w i o hf hsz ho hl ⟨p, ⟨tmF, delH m s.hp ++ joinD dsF⟩, Nat.le_refl _, hp, fun m => ⟨hA.low m, fun h => hm m (by omega)⟩, PA.done hmod hD hp hA fun m h => hm m (by omega), he⟩ hm
    · have hB' := hB
      obtain ⟨k, s1, h1, h2, h3, h4, h5⟩ := hB
      have hik : k ≤ i := by
        rcases Nat.lt_or_ge i k with h | h
        · exact absurd ((h3 i).2 h) hnot
        · exact h
      have hcl : Closed all (Lof listed) := by
        intro j o' hj ho' e he hbd
        have := backFrom_get hback ho' e he hbd
        exact (h3 _).2 (by have := (h3 j).1 hj; omega)
      exact tailStep fuel ih listed a w i o hf hsz ho hl hB' fun m hm => ahead_in hcl i o hoA hin m (htail i (by omega) (by omega) m hm)

theorem evRegion_sound {call : CallF} (hΓ : CtxOk P Γ) (hcall : CallsOk P call) (id : Nat) (draw : Bool) (hback : backFrom 0 ops.toList = true) (hop : ops.toList.all operOk = true) {a : Act} {w : World} (hs : SR β base s a w) {s' : St}
    (he : (evRegion Γ call nm ops.toList draw s).den = some s') (hQ : ∀ a' w', After β w base s' a' w' → Q .normal a' w') : (Code.region id ops draw).wp P Q a w := by
  unfold evRegion at he
  cases draw with
  | false =>
    simp only [cond_false] at he
    refine wp_region ?_
    have h1 : List.range ops.size = List.range' 0 ops.toList.length := by rw [Array.length_toList, List.range_eq_range']
    rw [h1, wpOps_eq_wpList ops.toList 0 (fun j => by simp)]
    exact evOps_sound hΓ hcall nm rfl ops.toList hop β s a w hs s' he hQ
  | true =>
    simp only [cond_true] at he
    generalize hok : drawOk ops.toList (befores ops.toList) (tailFrom (befores ops.toList) ops.toList.length) = ok at he
    cases ok with
    | false => exact (den_fail he).elim
    | true =>
      have hmod : ∀ σ n, (guessM (ops.toList.take (tailFrom (befores ops.toList) ops.toList.length)) s.tm s.hp (ops.toList.take (tailFrom (befores ops.toList) ops.toList.length)) 0).filter (fun q => Nat.blt q.1 (tailFrom (befores ops.toList) ops.toList.length)) = some (σ, n) → σ < tailFrom (befores ops.toList) ops.toList.length := by
        intro σ n e
        have := (Option.filter_eq_some_iff.1 e).2
        exact Nat.le_of_ble_eq_true this
      generalize (guessM (ops.toList.take (tailFrom (befores ops.toList) ops.toList.length)) s.tm s.hp (ops.toList.take (tailFrom (befores ops.toList) ops.toList.length)) 0).filter (fun q => Nat.blt q.1 (tailFrom (befores ops.toList) ops.toList.length)) = m at he hmod
      obtain ⟨⟨tmF, dsF⟩, h1, h2⟩ := den_bind_some he
      refine wp_region_any hΓ.mixed ?_
      have hw : Below base w { w with drawn := w.drawn + 1 } := ⟨rfl, rfl, rfl, Nat.le_refl _, fun _ _ => rfl⟩
      refine wpAny_draw hmod hΓ hcall rfl hback hop rfl hok (evDraw_drawn Γ nm _ _ _ _ _ _ _ _ _ _ h1) h2 hQ ops.size _ a _ ?_ (by simp) (.inl ?_)
      · unfold open_
        refine Nat.le_trans List.count_le_length (by simp)
      · refine ⟨fun j o hj => ?_, fun i hi => ?_, β, s.hp, β.le_refl, hs.rep.heap_eq rfl, hs.base, hw, hs.defers, ?_, fun n b => ?_, fun t ht hno => ?_⟩
        · unfold Lof at hj; simp [Array.getElem?_replicate] at hj
        · unfold Lof at hi; simp [Array.getElem?_replicate] at hi
        · have := hs.tm.length
          rw [(evDraw_drawn Γ nm _ _ _ _ _ _ _ _ _ _ h1).len, this]; simp
        · constructor
          · intro h
            by_cases e : ∃ σ, m = some (σ, n)
            · obtain ⟨σ, e⟩ := e
              exact .inr (.inl ⟨σ, e, fun hl => by unfold Lof at hl; simp [Array.getElem?_replicate] at hl, h⟩)
            · exact .inl (del_keep h fun σ e' => e ⟨σ, e'⟩)
          · rintro (h | ⟨σ, _, _, h⟩ | ⟨i, d, hi, _⟩)
            · exact (del_some h).1
            · exact h
            · unfold Lof at hi; simp [Array.getElem?_replicate] at hi
        · have hD := evDraw_drawn Γ nm _ _ _ _ _ _ _ _ _ _ h1
          have : NoDst (ops.toList.take (tailFrom (befores ops.toList) ops.toList.length)) t := by
            intro o ho hd
            obtain ⟨k, hk⟩ := List.getElem?_of_mem ho
            rw [List.getElem?_take] at hk
            split at hk
            · rename_i hlt
              have := hno k hlt (by unfold slotOf; rw [hk]; exact hd)
              unfold Lof at this; simp [Array.getElem?_replicate] at this
            · cases hk
          exact (hD.kept t this _ _).2 (slot_rep hs.tm t)
end
end Go.Ab

/-
  States named anew, and states told by their form alone.
-/
namespace Go.Ab
open Go.RowKit

/-! ### What is told no more -/
def Weak (v v' : AV) : Prop := ∀ β u, VRep β v u → VRep β v' u
def Weaks (l l' : List AV) : Prop := ∀ β us, VReps β l us → VReps β l' us

theorem weaks_cons {v v' : AV} {l l' : List AV} (h : Weak v v') (k : Weaks l l') : Weaks (v :: l) (v' :: l') := fun β us hu => by
  cases hu with
  | cons _ u _ s h1 h2 => exact .cons _ _ _ _ (h β u h1) (k β s h2)

mutual
theorem Sh.get_weak : ∀ (s : Sh) (v : AV) (x : s.den), s.get v = some x → Weak v (s.fill x)
  | .top, v, x, _ => fun β u _ => .top u
  | .nilp, v, x, h => by cases v <;> simp [Sh.get] at h; exact fun β u hu => hu
  | .ptr n i c, v, x, h => by
    cases v <;> simp only [Sh.get] at h <;> try (cases h)
    rename_i n' i' c'
    generalize hb : (Nat.beq n n' && Nat.beq i i' && Nat.beq c c') = ok at h
    cases ok with
    | false => cases h
    | true =>
      simp only [Bool.and_eq_true] at hb
      obtain ⟨⟨h1, h2⟩, h3⟩ := hb
      have := Nat.eq_of_beq_eq_true h1; have := Nat.eq_of_beq_eq_true h2; have := Nat.eq_of_beq_eq_true h3
      subst n' i' c'
      exact fun β u hu => hu
  | .bool, v, x, h => by cases v <;> simp [Sh.get] at h; subst h; exact fun β u hu => hu
  | .int k, v, x, h => by
    cases v <;> simp [Sh.get] at h
    obtain ⟨h1, h2⟩ := h
    subst h1; subst h2; exact fun β u hu => hu
  | .flt k, v, x, h => by
    cases v <;> simp [Sh.get] at h
    obtain ⟨h1, h2⟩ := h
    subst h1; subst h2; exact fun β u hu => hu
  | .cpx k, v, x, h => by
    cases v <;> simp [Sh.get] at h
    obtain ⟨h1, h2⟩ := h
    subst h1; subst h2; exact fun β u hu => hu
  | .str, v, x, h => by cases v <;> simp [Sh.get] at h; subst h; exact fun β u hu => hu
  | .slo n, v, x, h => by
    cases v <;> simp only [Sh.get] at h <;> try (cases h)
    rename_i n' off m
    generalize hb : Nat.beq n n' = ok at h
    cases ok with
    | false => cases h
    | true =>
      have := Nat.eq_of_beq_eq_true hb
      subst n'
      cases h
      exact fun β u hu => hu
  | .slc n, v, x, h => by
    cases v <;> simp only [Sh.get] at h <;> try (cases h)
    rename_i n' off m
    generalize hb : (Nat.beq n n' && Nat.beq off 0) = ok at h
    cases ok with
    | false => cases h
    | true =>
      simp only [Bool.and_eq_true] at hb
      have := Nat.eq_of_beq_eq_true hb.1; have := Nat.eq_of_beq_eq_true hb.2
      subst n' off
      cases h
      exact fun β u hu => hu
  | .arv κ, v, x, h => by
    cases v <;> simp [Sh.get] at h
    obtain ⟨h1, h2⟩ := h
    subst h1; subst h2; exact fun β u hu => hu
  | .fn f a b, v, x, h => by
    cases v <;> simp only [Sh.get] at h <;> try (cases h)
    rename_i f' a' b'
    split at h
    · rename_i hf
      subst hf
      cases h1 : a.get a' with
      | none => rw [h1] at h; cases h
      | some y =>
      cases h2 : b.get b' with
      | none => rw [h1, h2] at h; cases h
      | some z =>
      rw [h1, h2] at h; cases h
      have i1 := Shs.get_weak a a' _ h1
      have i2 := Shs.get_weak b b' _ h2
      intro β u hu
      cases hu with
      | fn _ _ _ p q k1 k2 => exact .fn _ _ _ p q (i1 β _ k1) (i2 β _ k2)
    · cases h
  | .agg l, v, x, h => by
    cases v <;> simp only [Sh.get] at h <;> try (cases h)
    rename_i l'
    have i1 := Shs.get_weak l l' _ h
    intro β u hu
    cases hu with
    | agg _ p k1 => exact .agg _ p (i1 β _ k1)
theorem Shs.get_weak : ∀ (s : Shs) (l : List AV) (x : s.den), s.get l = some x → Weaks l (s.fill x)
  | .nil, [], x, _ => fun β us h => h
  | .nil, _ :: _, x, h => by simp [Shs.get] at h
  | .cons s r, [], x, h => by cases s <;> simp [Shs.get] at h
  | .cons .top r, v :: l, x, h => weaks_cons (fun β u _ => .top u) (Shs.get_weak r l x h)
  | .cons .nilp r, v :: l, x, h => by
    simp only [Shs.get] at h
    cases h1 : Sh.nilp.get v with
    | none => rw [h1] at h; simp at h
    | some z =>
      cases h2 : r.get l with
      | none => rw [h1, h2] at h; simp at h
      | some y =>
        rw [h1, h2] at h; cases h
        exact weaks_cons (Sh.get_weak .nilp v z h1) (Shs.get_weak r l _ h2)
  | .cons (.ptr n i c) r, v :: l, x, h => by
    simp only [Shs.get] at h
    cases h1 : (Sh.ptr n i c).get v with
    | none => rw [h1] at h; simp at h
    | some z =>
      cases h2 : r.get l with
      | none => rw [h1, h2] at h; simp at h
      | some y =>
        rw [h1, h2] at h; cases h
        exact weaks_cons (Sh.get_weak (.ptr n i c) v z h1) (Shs.get_weak r l _ h2)
  | .cons .bool r, v :: l, x, h => by
    simp only [Shs.get] at h
    cases h1 : (Sh.bool).get v with
    | none => rw [h1] at h; cases h
    | some z =>
      cases h2 : r.get l with
      | none => rw [h1, h2] at h; cases h
      | some y =>
        rw [h1, h2] at h; cases h
        exact weaks_cons (Sh.get_weak _ v _ h1) (Shs.get_weak r l _ h2)
  | .cons (.int k) r, v :: l, x, h => by
    simp only [Shs.get] at h
    cases h1 : (Sh.int k).get v with
    | none => rw [h1] at h; cases h
    | some z =>
      cases h2 : r.get l with
      | none => rw [h1, h2] at h; cases h
      | some y =>
        rw [h1, h2] at h; cases h
        exact weaks_cons (Sh.get_weak _ v _ h1) (Shs.get_weak r l _ h2)
  | .cons (.flt k) r, v :: l, x, h => by
    simp only [Shs.get] at h
    cases h1 : (Sh.flt k).get v with
    | none => rw [h1] at h; cases h
    | some z =>
      cases h2 : r.get l with
      | none => rw [h1, h2] at h; cases h
      | some y =>
        rw [h1, h2] at h; cases h
        exact weaks_cons (Sh.get_weak _ v _ h1) (Shs.get_weak r l _ h2)
  | .cons (.cpx k) r, v :: l, x, h => by
    simp only [Shs.get] at h
    cases h1 : (Sh.cpx k).get v with
    | none => rw [h1] at h; cases h
    | some z =>
      cases h2 : r.get l with
      | none => rw [h1, h2] at h; cases h
      | some y =>
        rw [h1, h2] at h; cases h
        exact weaks_cons (Sh.get_weak _ v _ h1) (Shs.get_weak r l _ h2)
  | .cons .str r, v :: l, x, h => by
    simp only [Shs.get] at h
    cases h1 : (Sh.str).get v with
    | none => rw [h1] at h; cases h
    | some z =>
      cases h2 : r.get l with
      | none => rw [h1, h2] at h; cases h
      | some y =>
        rw [h1, h2] at h; cases h
        exact weaks_cons (Sh.get_weak _ v _ h1) (Shs.get_weak r l _ h2)
  | .cons (.slo n) r, v :: l, x, h => by
    simp only [Shs.get] at h
    cases h1 : (Sh.slo n).get v with
    | none => rw [h1] at h; cases h
    | some z =>
      cases h2 : r.get l with
      | none => rw [h1, h2] at h; cases h
      | some y =>
        rw [h1, h2] at h; cases h
        exact weaks_cons (Sh.get_weak _ v _ h1) (Shs.get_weak r l _ h2)
  | .cons (.slc n) r, v :: l, x, h => by
    simp only [Shs.get] at h
    cases h1 : (Sh.slc n).get v with
    | none => rw [h1] at h; cases h
    | some z =>
      cases h2 : r.get l with
      | none => rw [h1, h2] at h; cases h
      | some y =>
        rw [h1, h2] at h; cases h
        exact weaks_cons (Sh.get_weak _ v _ h1) (Shs.get_weak r l _ h2)
  | .cons (.arv κ) r, v :: l, x, h => by
    simp only [Shs.get] at h
    cases h1 : (Sh.arv κ).get v with
    | none => rw [h1] at h; cases h
    | some z =>
      cases h2 : r.get l with
      | none => rw [h1, h2] at h; cases h
      | some y =>
        rw [h1, h2] at h; cases h
        exact weaks_cons (Sh.get_weak _ v _ h1) (Shs.get_weak r l _ h2)
  | .cons (.fn f a b) r, v :: l, x, h => by
    simp only [Shs.get] at h
    cases h1 : (Sh.fn f a b).get v with
    | none => rw [h1] at h; cases h
    | some z =>
      cases h2 : r.get l with
      | none => rw [h1, h2] at h; cases h
      | some y =>
        rw [h1, h2] at h; cases h
        exact weaks_cons (Sh.get_weak _ v _ h1) (Shs.get_weak r l _ h2)
  | .cons (.agg s) r, v :: l, x, h => by
    simp only [Shs.get] at h
    cases h1 : (Sh.agg s).get v with
    | none => rw [h1] at h; cases h
    | some z =>
      cases h2 : r.get l with
      | none => rw [h1, h2] at h; cases h
      | some y =>
        rw [h1, h2] at h; cases h
        exact weaks_cons (Sh.get_weak _ v _ h1) (Shs.get_weak r l _ h2)
end

theorem Shs.get_len : ∀ (s : Shs) (l : List AV) (x : s.den), s.get l = some x → (s.fill x).length = l.length
  | .nil, [], x, _ => rfl
  | .nil, _ :: _, x, h => by simp [Shs.get] at h
  | .cons s r, [], x, h => by cases s <;> simp [Shs.get] at h
  | .cons .top r, v :: l, x, h => congrArg (· + 1) (Shs.get_len r l x h)
  | .cons .nilp r, v :: l, x, h => by
    simp only [Shs.get] at h
    cases h1 : (Sh.nilp : Sh).get v with
    | none => rw [h1] at h; simp at h
    | some z =>
      cases h2 : r.get l with
      | none => rw [h1, h2] at h; simp at h
      | some y => rw [h1, h2] at h; cases h; exact congrArg (· + 1) (Shs.get_len r l _ h2)
  | .cons (.ptr n i c) r, v :: l, x, h => by
    simp only [Shs.get] at h
    cases h1 : (Sh.ptr n i c : Sh).get v with
    | none => rw [h1] at h; simp at h
    | some z =>
      cases h2 : r.get l with
      | none => rw [h1, h2] at h; simp at h
      | some y => rw [h1, h2] at h; cases h; exact congrArg (· + 1) (Shs.get_len r l _ h2)
  | .cons .bool r, v :: l, x, h => by
    simp only [Shs.get] at h
    cases h1 : (Sh.bool).get v with
    | none => rw [h1] at h; cases h
    | some z =>
      cases h2 : r.get l with
      | none => rw [h1, h2] at h; cases h
      | some y => rw [h1, h2] at h; cases h; exact congrArg (· + 1) (Shs.get_len r l _ h2)
  | .cons (.int k) r, v :: l, x, h => by
    simp only [Shs.get] at h
    cases h1 : (Sh.int k).get v with
    | none => rw [h1] at h; cases h
    | some z =>
      cases h2 : r.get l with
      | none => rw [h1, h2] at h; cases h
      | some y => rw [h1, h2] at h; cases h; exact congrArg (· + 1) (Shs.get_len r l _ h2)
  | .cons (.flt k) r, v :: l, x, h => by
    simp only [Shs.get] at h
    cases h1 : (Sh.flt k).get v with
    | none => rw [h1] at h; cases h
    | some z =>
      cases h2 : r.get l with
      | none => rw [h1, h2] at h; cases h
      | some y => rw [h1, h2] at h; cases h; exact congrArg (· + 1) (Shs.get_len r l _ h2)
  | .cons (.cpx k) r, v :: l, x, h => by
    simp only [Shs.get] at h
    cases h1 : (Sh.cpx k).get v with
    | none => rw [h1] at h; cases h
    | some z =>
      cases h2 : r.get l with
      | none => rw [h1, h2] at h; cases h
      | some y => rw [h1, h2] at h; cases h; exact congrArg (· + 1) (Shs.get_len r l _ h2)
  | .cons .str r, v :: l, x, h => by
    simp only [Shs.get] at h
    cases h1 : (Sh.str).get v with
    | none => rw [h1] at h; cases h
    | some z =>
      cases h2 : r.get l with
      | none => rw [h1, h2] at h; cases h
      | some y => rw [h1, h2] at h; cases h; exact congrArg (· + 1) (Shs.get_len r l _ h2)
  | .cons (.slo n) r, v :: l, x, h => by
    simp only [Shs.get] at h
    cases h1 : (Sh.slo n).get v with
    | none => rw [h1] at h; cases h
    | some z =>
      cases h2 : r.get l with
      | none => rw [h1, h2] at h; cases h
      | some y => rw [h1, h2] at h; cases h; exact congrArg (· + 1) (Shs.get_len r l _ h2)
  | .cons (.slc n) r, v :: l, x, h => by
    simp only [Shs.get] at h
    cases h1 : (Sh.slc n).get v with
    | none => rw [h1] at h; cases h
    | some z =>
      cases h2 : r.get l with
      | none => rw [h1, h2] at h; cases h
      | some y => rw [h1, h2] at h; cases h; exact congrArg (· + 1) (Shs.get_len r l _ h2)
  | .cons (.arv κ) r, v :: l, x, h => by
    simp only [Shs.get] at h
    cases h1 : (Sh.arv κ).get v with
    | none => rw [h1] at h; cases h
    | some z =>
      cases h2 : r.get l with
      | none => rw [h1, h2] at h; cases h
      | some y => rw [h1, h2] at h; cases h; exact congrArg (· + 1) (Shs.get_len r l _ h2)
  | .cons (.fn f a b) r, v :: l, x, h => by
    simp only [Shs.get] at h
    cases h1 : (Sh.fn f a b).get v with
    | none => rw [h1] at h; cases h
    | some z =>
      cases h2 : r.get l with
      | none => rw [h1, h2] at h; cases h
      | some y => rw [h1, h2] at h; cases h; exact congrArg (· + 1) (Shs.get_len r l _ h2)
  | .cons (.agg s) r, v :: l, x, h => by
    simp only [Shs.get] at h
    cases h1 : (Sh.agg s).get v with
    | none => rw [h1] at h; cases h
    | some z =>
      cases h2 : r.get l with
      | none => rw [h1, h2] at h; cases h
      | some y => rw [h1, h2] at h; cases h; exact congrArg (· + 1) (Shs.get_len r l _ h2)

theorem EK.cells_free {β β' : Bt} : ∀ (κ : EK) (x : κ.den) (us : List Value), VReps β (κ.cells x) us → VReps β' (κ.cells x) us
  | .bool, _, _, h => by cases h with | cons _ u _ s h1 h2 => cases h1; cases h2; exact .one (.bs _)
  | .int k, _, _, h => by cases h with | cons _ u _ s h1 h2 => cases h1; cases h2; exact .one (.int _ _)
  | .flt k, _, _, h => by cases h with | cons _ u _ s h1 h2 => cases h1 with | flt _ _ b hb => cases h2; exact .one (.flt _ _ _ hb)
  | .cpx k, _, _, h => by cases h with | cons _ u _ s h1 h2 => cases h1 with | cpx _ _ _ a b ha hb => cases h2; exact .one (.cpx _ _ _ _ _ ha hb)
  | .str, _, _, h => by cases h with | cons _ u _ s h1 h2 => cases h1; cases h2; exact .one (.str _)
  | .pair a b, x, us, h => by
    have h' : VReps β (a.cells x.1 ++ b.cells x.2) us := h
    obtain ⟨u1, u2, rfl, h1, h2⟩ := VReps.split _ h'
    exact (EK.cells_free a _ _ h1).append (EK.cells_free b _ _ h2)

theorem flat_free {β β' : Bt} {κ : EK} : ∀ {l : List κ.den} {us : List Value}, VReps β (l.flatMap κ.cells) us → VReps β' (l.flatMap κ.cells) us
  | [], _, h => by cases h; exact .nil
  | x :: r, us, h => by
    rw [List.flatMap_cons] at h ⊢
    obtain ⟨u1, u2, rfl, h1, h2⟩ := VReps.split _ h
    exact (EK.cells_free κ x _ h1).append (flat_free h2)

/-- A block told no more. -/
structure BWeak (b b' : Blk) : Prop where
  own : b'.own = b.own
  len : b'.len = b.len
  es : b'.es = b.es
  live : b'.live → b.live
  cl : Weaks b.cl b'.cl
  empty : b.cl = [] → b'.cl = []

theorem BSh.get_weak : ∀ (s : BSh) (b : Blk) (x : s.den), s.get b = some x → BWeak b (s.fill x)
  | .vals o l, b, x, h => by
    cases b with
    | vals o' l' =>
      simp only [BSh.get] at h
      generalize ho : (o == o') = ok at h
      cases ok with
      | false => cases h
      | true =>
        have : o = o' := by simpa using ho
        subst this
        have hl := Shs.get_len l l' x h
        refine ⟨rfl, hl, rfl, fun _ => trivial, Shs.get_weak l l' x h, fun h0 => ?_⟩
        have h0' : l' = [] := h0
        show l.fill x = []
        exact List.eq_nil_of_length_eq_zero (by rw [hl, h0']; rfl)
    | arr _ _ _ => simp [BSh.get] at h
    | dead => simp [BSh.get] at h
  | .arr o κ, b, x, h => by
    cases b with
    | arr o' κ' l' =>
      simp only [BSh.get] at h
      split at h
      · rename_i e
        subst e
        generalize ho : (o == o') = ok at h
        cases ok with
        | false => cases h
        | true =>
          have : o = o' := by simpa using ho
          subst this
          cases h
          exact ⟨rfl, rfl, rfl, fun _ => trivial, fun β us h => h, fun h => h⟩
      · cases h
    | vals _ _ => simp [BSh.get] at h
    | dead => simp [BSh.get] at h

theorem HSh.get_weak : ∀ (s : List (Nat × BSh)) (h : Heap) (x : HSh.den s), HSh.get s h = some x → ∀ n, (hget h n = none ∧ hget (HSh.fill s x) n = none) ∨ ∃ b b', hget h n = some b ∧ hget (HSh.fill s x) n = some b' ∧ BWeak b b'
  | [], [], x, _, n => .inl ⟨rfl, rfl⟩
  | [], _ :: _, x, h, n => by simp [HSh.get] at h
  | p :: r, [], x, h, n => by simp [HSh.get] at h
  | p :: r, (m, b) :: h', x, h, n => by
    simp only [HSh.get] at h
    generalize hb : Nat.beq p.1 m = ok at h
    cases ok with
    | false => cases h
    | true =>
      have := Nat.eq_of_beq_eq_true hb
      simp only [cond_true] at h
      cases h1 : p.2.get b with
      | none => rw [h1] at h; cases h
      | some y =>
      cases h2 : HSh.get r h' with
      | none => rw [h1, h2] at h; cases h
      | some z =>
      rw [h1, h2] at h; cases h
      unfold HSh.fill
      by_cases e : m = n
      · subst e
        rw [this, hget_cons_self, hget_cons_self]
        exact .inr ⟨_, _, rfl, rfl, BSh.get_weak p.2 b _ h1⟩
      · rw [hget_cons_ne _ _ e, hget_cons_ne _ _ (by rw [this]; exact e)]
        exact HSh.get_weak r h' _ h2 n

theorem Rep.weak {β : Bt} {h h' : Heap} {w : World} {base : Nat} (hr : Rep β h w base) (hh : ∀ n, (hget h n = none ∧ hget h' n = none) ∨ ∃ b b', hget h n = some b ∧ hget h' n = some b' ∧ BWeak b b') : Rep β h' w base := by
  have back : ∀ n b', hget h' n = some b' → ∃ b, hget h n = some b ∧ BWeak b b' := by
    intro n b' hn
    rcases hh n with ⟨_, h2⟩ | ⟨b, b2, h1, h2, h3⟩
    · rw [h2] at hn; cases hn
    · rw [h2] at hn; cases hn; exact ⟨b, h1, h3⟩
  refine ⟨fun n hn => ?_, fun n b' hn => ?_, fun n b' l hn hlive hl => ?_, fun n m b b' l l' hnm hn hm h1 h2 => ?_⟩
  · rcases hh n with ⟨h1, _⟩ | ⟨b, b2, h1, h2, h3⟩
    · exact hr.dom n h1
    · rw [h2] at hn; cases hn
  · obtain ⟨b, h1, _⟩ := back n b' hn
    exact hr.loc n b h1
  · obtain ⟨b, h1, h2⟩ := back n b' hn
    have hB := hr.blk n b l h1 (h2.live hlive) hl
    refine ⟨by rw [hB.own, h2.own], by rw [hB.len, h2.len], by rw [hB.es, h2.es], ?_, fun h => hB.mine (h2.own ▸ h), fun h => hB.room (h2.own ▸ h), fun h hne => hB.other (h2.own ▸ h) fun h0 => hne (h2.empty h0)⟩
    obtain ⟨U, hU1, hU2, hU3⟩ := VReps.of_cells (fun j => w.cell? ⟨l.blk, l.off + j, none⟩) b.cl hB.cells
    intro j v hj
    obtain ⟨u, hu, hv⟩ := (h2.cl β U hU3).get j hj
    exact ⟨u, hU1 j u hu, hv⟩
  · obtain ⟨c, g1, g2⟩ := back n b hn
    obtain ⟨c', g3, g4⟩ := back m b' hm
    exact hr.sep n m c c' l l' hnm g1 g3 (g2.live h1) (g4.live h2)

theorem SSh.get_sr {β : Bt} {base : Nat} {s : SSh} {t : St} {a : Act} {w : World} {x : s.den} (hg : s.get t = some x) (hs : SR β base t a w) : SR β base (s.fill x) a w := by
  unfold SSh.get at hg
  cases h1 : s.tm.get t.tm with
  | none => rw [h1] at hg; cases hg
  | some y =>
  cases h2 : HSh.get s.hp t.hp with
  | none => rw [h1, h2] at hg; cases hg
  | some z =>
  rw [h1, h2] at hg; cases hg
  exact ⟨Shs.get_weak s.tm t.tm _ h1 β _ hs.tm, hs.rep.weak (HSh.get_weak s.hp t.hp _ h2), hs.base, hs.defers⟩

/-! ### Names -/
theorem inN_mem {l : List Nat} {x : Nat} : inN l x = true ↔ x ∈ l := by
  unfold inN
  rw [List.any_eq_true]
  constructor
  · rintro ⟨y, hy, he⟩
    have := Nat.eq_of_beq_eq_true he
    subst this; exact hy
  · intro h
    exact ⟨x, h, Nat.beq_refl x⟩

theorem posOf_lt : ∀ (l : List Nat) (j x : Nat), x ∈ l → posOf x l j < j + l.length ∧ j ≤ posOf x l j
  | [], _, _, h => by cases h
  | y :: r, j, x, h => by
    unfold posOf
    cases hb : Nat.beq x y with
    | true => simp only [cond_true, List.length_cons]; omega
    | false =>
      have hne : x ≠ y := fun e => by subst e; rw [Nat.beq_refl] at hb; cases hb
      have := posOf_lt r (j + 1) x (by simpa [hne] using h)
      simp only [cond_false, List.length_cons]; omega

theorem posOf_inj : ∀ (l : List Nat) (j x y : Nat), x ∈ l → y ∈ l → posOf x l j = posOf y l j → x = y
  | [], _, _, _, h, _, _ => by cases h
  | z :: r, j, x, y, hx, hy, h => by
    unfold posOf at h
    cases hb : Nat.beq x z with
    | true =>
      have hxz := Nat.eq_of_beq_eq_true hb
      cases hc : Nat.beq y z with
      | true => rw [hxz, Nat.eq_of_beq_eq_true hc]
      | false =>
        exfalso
        have hne : y ≠ z := fun e => by subst e; rw [Nat.beq_refl] at hc; cases hc
        rw [hb, hc] at h
        simp only [cond_true, cond_false] at h
        have := posOf_lt r (j + 1) y (by simpa [hne] using hy)
        omega
    | false =>
      have hnx : x ≠ z := fun e => by subst e; rw [Nat.beq_refl] at hb; cases hb
      cases hc : Nat.beq y z with
      | true =>
        exfalso
        rw [hb, hc] at h
        simp only [cond_true, cond_false] at h
        have := posOf_lt r (j + 1) x (by simpa [hnx] using hx)
        omega
      | false =>
        have hny : y ≠ z := fun e => by subst e; rw [Nat.beq_refl] at hc; cases hc
        rw [hb, hc] at h
        exact posOf_inj r (j + 1) x y (by simpa [hnx] using hx) (by simpa [hny] using hy) h

mutual
theorem ren_rep {β β' : Bt} {ρ : Nat → Nat} : ∀ (v : AV) (u : Value), VRep β v u → (∀ n l, n ∈ v.names → β n = some l → β' (ρ n) = some l) → VRep β' (v.ren ρ) u
  | _, _, .top v, _ => .top v
  | _, _, .bl b, _ => .bs b
  | _, _, .bs b, _ => .bs b
  | _, _, .int k n, _ => .int k n
  | _, _, .flt k x b h, _ => .flt k x b h
  | _, _, .cpx k x y a b h h', _ => .cpx k x y a b h h'
  | _, _, .str s, _ => .str s
  | _, _, .nilp, _ => .nilp
  | _, _, .ptr n i c l h h1 h2, hn => .ptr _ i c l (hn n l (by simp [AV.names]) h) h1 h2
  | _, _, .slc n o m l a cap h h1, hn => .slc _ o m l a cap (hn n l (by simp [AV.names]) h) h1
  | _, _, .nils κ a, _ => .nils κ a
  | _, _, .fn f a b a' b' h h', hn => .fn f _ _ a' b' (renL_rep a a'.toList h fun n l hm => hn n l (by simp [AV.names, hm])) (renL_rep b b'.toList h' fun n l hm => hn n l (by simp [AV.names, hm]))
  | _, _, .agg l cs h, hn => .agg _ cs (renL_rep l cs.toList h fun n l hm => hn n l (by simp [AV.names, hm]))
  | _, _, .arv κ l cs h, _ => .arv κ l cs (flat_free h)
  | _, _, .tup l cs h, hn => .tup _ cs (renL_rep l cs.toList h fun n l hm => hn n l (by simp [AV.names, hm]))
theorem renL_rep {β β' : Bt} {ρ : Nat → Nat} : ∀ (l : List AV) (us : List Value), VReps β l us → (∀ n k, n ∈ AV.namesL l → β n = some k → β' (ρ n) = some k) → VReps β' (AV.renL ρ l) us
  | _, _, .nil, _ => .nil
  | _, _, .cons v u r s h h', hn => .cons _ u _ s (ren_rep v u h fun n k hm => hn n k (by simp [AV.namesL, hm])) (renL_rep r s h' fun n k hm => hn n k (by simp [AV.namesL, hm]))
end

theorem hget_fm_of {α : Type} (h : α → Option Blk) (ρ : α → Nat) (g : Blk → Blk) : ∀ (l : List α) (x : α) (b : Blk), (∀ y ∈ l, ρ y = ρ x → h y = h x) → x ∈ l → h x = some b → hget (l.filterMap fun x => (h x).map fun b => (ρ x, g b)) (ρ x) = some (g b)
  | [], _, _, _, hm, _ => by cases hm
  | y :: r, x, b, hinj, hm, hb => by
    by_cases e : ρ y = ρ x
    · have hy := hinj y List.mem_cons_self e
      rw [List.filterMap_cons, hy, hb]
      simp only [Option.map_some, e]
      exact hget_cons_self _ _ _
    · have hxr : x ∈ r := by
        rcases List.mem_cons.1 hm with rfl | h
        · exact absurd rfl e
        · exact h
      have ih := hget_fm_of h ρ g r x b (fun z hz => hinj z (List.mem_cons_of_mem _ hz)) hxr hb
      rw [List.filterMap_cons]
      cases hy : h y with
      | none => exact ih
      | some c =>
        simp only [Option.map_some]
        rw [hget_cons_ne _ _ e]
        exact ih

theorem hget_fm_inv {α : Type} (h : α → Option Blk) (ρ : α → Nat) (g : Blk → Blk) : ∀ (l : List α) (m : Nat) (b' : Blk), hget (l.filterMap fun x => (h x).map fun b => (ρ x, g b)) m = some b' → ∃ x b, x ∈ l ∧ ρ x = m ∧ h x = some b ∧ b' = g b
  | [], m, b', hm => by cases hm
  | y :: r, m, b', hm => by
    rw [List.filterMap_cons] at hm
    cases hy : h y with
    | none =>
      rw [hy] at hm
      obtain ⟨x, b, h1, h2⟩ := hget_fm_inv h ρ g r m b' hm
      exact ⟨x, b, List.mem_cons_of_mem _ h1, h2⟩
    | some c =>
      rw [hy] at hm
      simp only [Option.map_some] at hm
      by_cases e : ρ y = m
      · subst e
        rw [hget_cons_self] at hm
        cases hm
        exact ⟨y, c, List.mem_cons_self, rfl, hy, rfl⟩
      · rw [hget_cons_ne _ _ e] at hm
        obtain ⟨x, b, h1, h2⟩ := hget_fm_inv h ρ g r m b' hm
        exact ⟨x, b, List.mem_cons_of_mem _ h1, h2⟩

theorem brep_ren {β β' : Bt} {ρ : Nat → Nat} {w : World} {base : Nat} {l : Loc} {b : Blk} (hB : BRep β w base l b) (hn : ∀ o vs, b = .vals o vs → ∀ n k, n ∈ AV.namesL vs → β n = some k → β' (ρ n) = some k) : BRep β' w base l (b.ren ρ) := by
  obtain ⟨U, hU1, hU2, hU3⟩ := VReps.of_cells (fun j => w.cell? ⟨l.blk, l.off + j, none⟩) b.cl hB.cells
  have hcl : VReps β' (b.ren ρ).cl U := by
    cases b with
    | vals o vs => exact renL_rep vs U hU3 (hn o vs rfl)
    | arr o κ l => exact flat_free hU3
    | dead => exact hU3 |> fun h => by cases h; exact .nil
  have hlen : (b.ren ρ).cl.length = b.cl.length := by rw [hcl.length, hU2]
  refine ⟨by rw [hB.own]; cases b <;> rfl, ?_, by rw [hB.es]; cases b <;> rfl, fun j v hj => ?_, fun h => hB.mine (by cases b <;> exact h), fun h => hB.room (by cases b <;> exact h), fun h hne => hB.other (by cases b <;> exact h) fun h0 => hne ?_⟩
  · rw [hB.len]
    cases b with
    | vals o vs => exact hlen.symm
    | arr o κ l => rfl
    | dead => rfl
  · obtain ⟨u, hu, hv⟩ := hcl.get j hj
    exact ⟨u, hU1 j u hu, hv⟩
  · rw [h0] at hlen
    exact List.eq_nil_of_length_eq_zero hlen

theorem keep_rep {β : Bt} {keep : List Nat} {s : St} {us : List Value} (h : VReps β s.tm us) : VReps β (normTm keep s) us := by
  refine VReps.mk' (by unfold normTm; rw [List.length_mapIdx, h.length]) fun t ht => ?_
  unfold normTm
  have ht' : t < s.tm.length := by unfold normTm at ht; rwa [List.length_mapIdx] at ht
  have h1 := h.getD t undef
  rw [List.getD_eq_getElem?_getD, List.getElem?_mapIdx, List.getElem?_eq_getElem ht']
  simp only [Option.map_some, Option.getD_some]
  cases keep.any (Nat.beq t) with
  | true =>
    rw [List.getD_eq_getElem?_getD, List.getElem?_eq_getElem ht'] at h1
    exact h1
  | false => exact .top _

theorem normO_sound {β0 β : Bt} {base : Nat} {s s2 : St} {a : Act} {w : World} {pre keep : List Nat} {lb : Nat} (hβ : β0.le β) (hpre : ∀ n l, β0 n = some l → n ∈ pre) (hs : SR β base s a w) (h : normO pre lb keep s = some s2) : ∃ β', β0.le β' ∧ SR β' base s2 a w := by
  unfold normO at h
  dsimp only at h
  generalize normAll pre keep s = all at h
  generalize hown : normOwn pre all = own at h
  generalize hok : normOk pre lb keep all own s = ok at h
  cases ok with
  | false => cases h
  | true =>
  cases h
  unfold normOk at hok
  simp only [Bool.and_eq_true] at hok
  obtain ⟨⟨⟨h1, h2⟩, h3⟩, h4⟩ := hok
  have h1' : ∀ x ∈ pre, x < lb ∨ lb + own.length ≤ x := fun x hx => by
    have := List.all_eq_true.1 h1 x hx
    simpa [Nat.blt_eq] using this
  have h2' : ∀ n ∈ AV.namesL (normTm keep s), n ∈ all := fun n hn => inN_mem.1 (List.all_eq_true.1 h2 n hn)
  have h3' : ∀ x ∈ all, ∀ o vs, hget s.hp x = some (.vals o vs) → ∀ n ∈ AV.namesL vs, n ∈ all := fun x hx o vs hv n hn => by
    have := List.all_eq_true.1 h3 x hx
    rw [hv] at this
    exact inN_mem.1 (List.all_eq_true.1 this n hn)
  have h4' : ∀ x ∈ pre, x ∈ all := fun x hx => inN_mem.1 (List.all_eq_true.1 h4 x hx)
  have hownm : ∀ x ∈ all, x ∉ pre → x ∈ own := fun x hx hn => by
    rw [← hown]
    unfold normOwn
    rw [List.mem_filter]
    refine ⟨hx, ?_⟩
    cases hb : pre.any (Nat.beq x) with
    | false => rfl
    | true => exact absurd (inN_mem.1 hb) hn
  have rpre : ∀ x ∈ pre, normRen pre own lb x = x := fun x hx => by
    unfold normRen
    rw [show pre.any (Nat.beq x) = true from inN_mem.2 hx]; rfl
  have rown : ∀ x, x ∉ pre → normRen pre own lb x = lb + posOf x own 0 := fun x hx => by
    unfold normRen
    cases hb : pre.any (Nat.beq x) with
    | false => rfl
    | true => exact absurd (inN_mem.1 hb) hx
  have inj : ∀ x ∈ all, ∀ y ∈ all, normRen pre own lb x = normRen pre own lb y → x = y := by
    intro x hx y hy e
    by_cases px : x ∈ pre
    · by_cases py : y ∈ pre
      · rwa [rpre x px, rpre y py] at e
      · rw [rpre x px, rown y py] at e
        have := posOf_lt own 0 y (hownm y hy py)
        rcases h1' x px with h | h <;> omega
    · by_cases py : y ∈ pre
      · rw [rown x px, rpre y py] at e
        have := posOf_lt own 0 x (hownm x hx px)
        rcases h1' y py with h | h <;> omega
      · rw [rown x px, rown y py] at e
        exact posOf_inj own 0 x y (hownm x hx px) (hownm y hy py) (by omega)
  generalize hρ : normRen pre own lb = ρ at *
  let β' : Bt := fun m => (all.find? fun x => Nat.beq (ρ x) m && (hget s.hp x).isSome).bind β
  have hβ' : ∀ x ∈ all, ∀ l, β x = some l → β' (ρ x) = some l := by
    intro x hx l hl
    have hsome : (hget s.hp x).isSome = true := by
      cases hg : hget s.hp x with
      | some b => rfl
      | none => rw [hs.rep.dom x hg] at hl; cases hl
    show (all.find? fun y => Nat.beq (ρ y) (ρ x) && (hget s.hp y).isSome).bind β = some l
    cases hf : all.find? fun y => Nat.beq (ρ y) (ρ x) && (hget s.hp y).isSome with
    | none =>
      have := List.find?_eq_none.1 hf x hx
      rw [Nat.beq_refl, hsome] at this
      exact absurd rfl this
    | some y =>
      have h5 := List.find?_some hf
      have h6 := List.mem_of_find?_eq_some hf
      simp only [Bool.and_eq_true] at h5
      have := inj y h6 x hx (Nat.eq_of_beq_eq_true h5.1)
      subst this
      exact hl
  have inv : ∀ m l, β' m = some l → ∃ x, x ∈ all ∧ ρ x = m ∧ (∃ b, hget s.hp x = some b) ∧ β x = some l := by
    intro m l hm
    have hm' : (all.find? fun y => Nat.beq (ρ y) m && (hget s.hp y).isSome).bind β = some l := hm
    cases hf : all.find? fun y => Nat.beq (ρ y) m && (hget s.hp y).isSome with
    | none => rw [hf] at hm'; cases hm'
    | some y =>
      rw [hf] at hm'
      have h5 := List.find?_some hf
      simp only [Bool.and_eq_true] at h5
      exact ⟨y, List.mem_of_find?_eq_some hf, Nat.eq_of_beq_eq_true h5.1, Option.isSome_iff_exists.1 h5.2, hm'⟩
  have ofAll : ∀ x ∈ all, ∀ b, hget s.hp x = some b → hget (normTo pre lb keep all own s).hp (ρ x) = some (b.ren ρ) := by
    intro x hx b hb
    unfold normTo
    rw [hρ]
    exact hget_fm_of (hget s.hp) ρ (·.ren ρ) all x b (fun y hy e => by rw [inj y hy x hx e]) hx hb
  have toAll : ∀ m b', hget (normTo pre lb keep all own s).hp m = some b' → ∃ x b, x ∈ all ∧ ρ x = m ∧ hget s.hp x = some b ∧ b' = b.ren ρ := by
    intro m b' hm
    unfold normTo at hm
    rw [hρ] at hm
    exact hget_fm_inv (hget s.hp) ρ (·.ren ρ) all m b' hm
  have ownRen : ∀ b : Blk, (b.ren ρ).live → b.live := fun b h => by cases b <;> exact h
  refine ⟨β', fun n l hn => ?_, ⟨?_, ⟨fun m hm => ?_, fun m b' hm => ?_, fun m b' l hm hlive hl => ?_, fun m m' b b' l l' hne hm hm' k1 k2 k3 k4 k5 k6 k7 k8 => ?_⟩, hs.base, hs.defers⟩⟩
  · have hp := hpre n l hn
    have := hβ' n (h4' n hp) l (hβ n l hn)
    rwa [rpre n hp] at this
  · show VReps β' (normTo pre lb keep all own s).tm _
    unfold normTo
    rw [hρ]
    exact renL_rep _ _ (keep_rep hs.tm) fun n l hn hl => hβ' n (h2' n hn) l hl
  · cases hb : β' m with
    | none => rfl
    | some l =>
      obtain ⟨x, hx, rfl, ⟨b, hg⟩, _⟩ := inv m l hb
      rw [ofAll x hx b hg] at hm; cases hm
  · obtain ⟨x, b, hx, rfl, hg, _⟩ := toAll m b' hm
    obtain ⟨l, hl⟩ := hs.rep.loc x b hg
    exact ⟨l, hβ' x hx l hl⟩
  · obtain ⟨x, b, hx, rfl, hg, rfl⟩ := toAll m b' hm
    obtain ⟨l0, hl0⟩ := hs.rep.loc x b hg
    rw [hβ' x hx l0 hl0] at hl; cases hl
    exact brep_ren (hs.rep.blk x b l hg (ownRen b hlive) hl0) fun o vs e n k hn hk => hβ' n (h3' x hx o vs (by rw [← e]; exact hg) n hn) k hk
  · obtain ⟨x, b1, hx, rfl, hg, rfl⟩ := toAll m b hm
    obtain ⟨y, b2, hy, rfl, hg', rfl⟩ := toAll m' b' hm'
    obtain ⟨l1, hl1⟩ := hs.rep.loc x b1 hg
    obtain ⟨l2, hl2⟩ := hs.rep.loc y b2 hg'
    rw [hβ' x hx l1 hl1] at k3; cases k3
    rw [hβ' y hy l2 hl2] at k4; cases k4
    exact hs.rep.sep x y b1 b2 l l' (fun e => hne (by rw [e])) hg hg' (ownRen _ k1) (ownRen _ k2) hl1 hl2 k5 k6 k7 k8
end Go.Ab

/-
  Code, loops, calls: the machine does what the evaluator tells.
-/
namespace Go.Ab
open Go.RowKit

def exOf : Ex → Exit
  | .nrm => .normal
  | .ext i => .exit i
  | .ret => .ret

/-- Behind some code of a function whose caller holds what β0 tells. -/
def After0 (β0 : Bt) (w : World) (base : Nat) (s : St) (a : Act) (w' : World) : Prop := ∃ β', β0.le β' ∧ SR β' base s a w' ∧ Below base w w'

def codeOk : Code → Bool
  | .region _ ops _ => backFrom 0 ops.toList && ops.toList.all operOk
  | .seq a b => codeOk a && codeOk b
  | .cond c a b => opndOk c && (codeOk a && codeOk b)
  | .block _ b => codeOk b
  | .loop b => codeOk b
  | _ => true

section
variable {P : Program} {Γ : Ctx} {base : Nat}

/-- A loop whose rounds are counted. -/
theorem wp_loop_nat {c : Code} {Q : Exit → Act → World → Prop} {a : Act} {w : World} (J : Nat → Act → World → Prop) {n : Nat} (h0 : J n a w)
    (round : ∀ n a w, J n a w → c.wp P (Exit.then (fun a' w' => ∃ m, m < n ∧ J m a' w') Q) a w) : (Code.loop c).wp P Q a w := by
  intro b k cs
  have key : ∀ n a w, J n a w → ∃ e a' w', Q e a' w' ∧ Arrives P (lone (b.at a (.code c :: .inLoop c :: k)) cs w) b k cs e a' w' := by
    intro n
    induction n using Nat.strongRecOn with
    | _ n ih =>
      intro a w hJ
      obtain ⟨e, a₁, w₁, hq, harr⟩ := round n a w hJ b (.inLoop c :: k) cs
      cases e with
      | normal =>
        obtain ⟨m, hm, hJ₁⟩ := hq
        obtain ⟨e₂, a₂, w₂, hq₂, harr₂⟩ := ih m hm a₁ w₁ hJ₁
        exact ⟨e₂, a₂, w₂, hq₂, .of_steps (Steps.trans harr (.one step_inLoop)) harr₂⟩
      | exit id => exact ⟨_, a₁, w₁, hq, .pass (x := .inLoop c) rfl (fun _ _ => .inl (by simp)) harr⟩
      | goto l => exact ⟨_, a₁, w₁, hq, .pass (x := .inLoop c) rfl (fun _ _ => .inl (by simp)) harr⟩
      | ret => exact ⟨_, a₁, w₁, hq, .pass (x := .inLoop c) rfl (fun _ _ => .inl (by simp)) harr⟩
      | panic ch => exact ⟨_, a₁, w₁, hq, .pass (x := .inLoop c) rfl (fun _ _ => .inl (by simp)) harr⟩
      | outgrown => exact ⟨_, a₁, w₁, hq, .pass (x := .inLoop c) rfl (fun _ _ => .inl (by simp)) harr⟩
  obtain ⟨e, a', w', hq, harr⟩ := key n a w h0
  exact ⟨e, a', w', hq, .of_steps (.one step_loop) harr⟩

theorem exGet_sound {β0 : Bt} {pre : List Nat} {lb : Nat} (hpre : ∀ n l, β0 n = some l → n ∈ pre) : ∀ (l : List LExit) (x : Ex) (s : St) (r : ExDen l), exGet pre lb l x s = some r →
    ∃ s2, (exOut l r).den = some (x, s2) ∧ ∀ (β : Bt) (a : Act) (w : World), β0.le β → SR β base s a w → ∃ β', β0.le β' ∧ SR β' base s2 a w
  | [], _, _, _, h => by cases h
  | [e], x, s, r, h => by
    have one : ∀ r : e.sh.den, (if x = e.ex then (normO pre lb e.keep s).bind e.sh.get else none) = some r → x = e.ex ∧ ∃ s2, normO pre lb e.keep s = some s2 ∧ e.sh.get s2 = some r := by
      intro r h
      split at h
      · rename_i hx
        cases hn : normO pre lb e.keep s with
        | none => rw [hn] at h; cases h
        | some s2 => rw [hn] at h; exact ⟨hx, s2, rfl, h⟩
      · cases h
    obtain ⟨hx, s2, h1, h2⟩ := one r h
    subst hx
    refine ⟨e.sh.fill r, rfl, fun β a w hle hs => ?_⟩
    obtain ⟨β', h3, h4⟩ := normO_sound hle hpre hs h1
    exact ⟨β', h3, SSh.get_sr h2 h4⟩
  | e :: f :: r', x, s, r, h => by
    have one : ∀ r : e.sh.den, (if x = e.ex then (normO pre lb e.keep s).bind e.sh.get else none) = some r → x = e.ex ∧ ∃ s2, normO pre lb e.keep s = some s2 ∧ e.sh.get s2 = some r := by
      intro r h
      split at h
      · rename_i hx
        cases hn : normO pre lb e.keep s with
        | none => rw [hn] at h; cases h
        | some s2 => rw [hn] at h; exact ⟨hx, s2, rfl, h⟩
      · cases h
    unfold exGet at h
    split at h
    · rename_i y hy
      cases h
      obtain ⟨hx, s2, h1, h2⟩ := one y hy
      subst hx
      refine ⟨e.sh.fill y, rfl, fun β a w hle hs => ?_⟩
      obtain ⟨β', h3, h4⟩ := normO_sound hle hpre hs h1
      exact ⟨β', h3, SSh.get_sr h2 h4⟩
    · cases hg : exGet pre lb (f :: r') x s with
      | none => rw [hg] at h; cases h
      | some z =>
        rw [hg] at h; cases h
        obtain ⟨s2, h1, h2⟩ := exGet_sound hpre (f :: r') x s z hg
        exact ⟨s2, h1, h2⟩

theorem cond_slot {β : Bt} {s : St} {a : Act} {w : World} (hs : SR β base s a w) {c : Operand} (hc : opndOk c = true) {b : Bool} (h : opv s.tm c = .bl b ∨ opv s.tm c = .bs b) : a.eval c = .bool b :=
  (guard_rep (opv_rep hs.tm c hc)).1 b h

theorem evCode_sound {call : CallF} (hΓ : CtxOk P Γ) (hcall : CallsOk P call) (fn nm : Nat) (pre : List Nat) (β0 : Bt) (hpre : ∀ n l, β0 n = some l → n ∈ pre) :
    ∀ (c : Code), codeOk c = true → ∀ (Q : Exit → Act → World → Prop) (β : Bt) (s : St) (a : Act) (w : World), β0.le β → SR β base s a w → ∀ r : Ex × St, (evCode Γ call fn nm pre c s).den = some r →
      (∀ a' w', After0 β0 w base r.2 a' w' → Q (exOf r.1) a' w') → c.wp P Q a w := by
  intro c
  induction c with
  | skip =>
    intro _ Q β s a w hle hs r he hQ
    have := den_ret he
    subst this
    exact wp_skip (hQ a w ⟨β, hle, hs, Below.refl _ _⟩)
  | label l =>
    intro _ Q β s a w hle hs r he hQ
    have := den_ret he
    subst this
    exact wp_label (hQ a w ⟨β, hle, hs, Below.refl _ _⟩)
  | region id ops draw =>
    intro hc Q β s a w hle hs r he hQ
    unfold codeOk at hc
    simp only [Bool.and_eq_true] at hc
    obtain ⟨s', h1, h2⟩ := den_bind_some he
    have := den_ret h2
    subst this
    exact evRegion_sound hΓ hcall id draw hc.1 hc.2 hs h1 fun a' w' ⟨β', h3, h4, h5⟩ => hQ a' w' ⟨β', hle.trans h3, h4, h5⟩
  | seq x y ihx ihy =>
    intro hc Q β s a w hle hs r he hQ
    unfold codeOk at hc
    simp only [Bool.and_eq_true] at hc
    obtain ⟨⟨e, s'⟩, h1, h2⟩ := den_bind_some he
    refine wp_seq (ihx hc.1 _ β s a w hle hs (e, s') h1 fun a' w' ⟨β', h3, h4, h5⟩ => ?_)
    cases e with
    | nrm => exact ihy hc.2 Q β' s' a' w' h3 h4 r h2 fun a2 w2 ⟨β2, g1, g2, g3⟩ => hQ a2 w2 ⟨β2, g1, g2, h5.trans g3⟩
    | ext i =>
      have := den_ret h2
      subst this
      exact hQ a' w' ⟨β', h3, h4, h5⟩
    | ret =>
      have := den_ret h2
      subst this
      exact hQ a' w' ⟨β', h3, h4, h5⟩
  | cond c x y ihx ihy =>
    intro hc Q β s a w hle hs r he hQ
    unfold codeOk at hc
    simp only [Bool.and_eq_true] at hc
    unfold evCode at he
    split at he
    · rename_i h; exact wp_cond_true (cond_slot hs hc.1 (.inl h)) (ihx hc.2.1 Q β s a w hle hs r he hQ)
    · rename_i h; exact wp_cond_false (cond_slot hs hc.1 (.inl h)) (ihy hc.2.2 Q β s a w hle hs r he hQ)
    · rename_i b h
      have hb := cond_slot hs hc.1 (.inr h)
      rw [T.den] at he
      cases b with
      | true => exact wp_cond_true hb (ihx hc.2.1 Q β s a w hle hs r he hQ)
      | false => exact wp_cond_false hb (ihy hc.2.2 Q β s a w hle hs r he hQ)
    · exact (den_fail he).elim
  | block id x ih =>
    intro hc Q β s a w hle hs r he hQ
    obtain ⟨⟨e, s'⟩, h1, h2⟩ := den_bind_some he
    refine wp_block (ih hc _ β s a w hle hs (e, s') h1 fun a' w' h3 => ?_)
    cases e with
    | nrm =>
      have := den_ret h2
      subst this
      exact hQ a' w' h3
    | ext i =>
      have := den_ret h2
      subst this
      show Exit.inBlock id Q (.exit i) a' w'
      show if i = id then Q .normal a' w' else Q (.exit i) a' w'
      have hQ' := hQ a' w' h3
      cases hb : Nat.beq i id with
      | true =>
        have := Nat.eq_of_beq_eq_true hb
        rw [hb] at hQ'
        rw [if_pos this]; exact hQ'
      | false =>
        have hne : i ≠ id := fun e => by subst e; rw [Nat.beq_refl] at hb; cases hb
        rw [hb] at hQ'
        rw [if_neg hne]; exact hQ'
    | ret =>
      have := den_ret h2
      subst this
      exact hQ a' w' h3
  | exit id =>
    intro _ Q β s a w hle hs r he hQ
    have := den_ret he
    subst this
    exact wp_exit (hQ a w ⟨β, hle, hs, Below.refl _ _⟩)
  | ret =>
    intro _ Q β s a w hle hs r he hQ
    have := den_ret he
    subst this
    exact wp_ret (hQ a w ⟨β, hle, hs, Below.refl _ _⟩)
  | rangeFunc f p x y _ _ => intro _ Q β s a w hle hs r he hQ; exact (den_fail he).elim
  | scope x _ => intro _ Q β s a w hle hs r he hQ; exact (den_fail he).elim
  | goto l => intro _ Q β s a w hle hs r he hQ; exact (den_fail he).elim
  | refuse y => intro _ Q β s a w hle hs r he hQ; exact (den_fail he).elim
  | loop x ih =>
    intro hc Q β s a w hle hs r he hQ
    unfold evCode at he
    split at he
    · exact (den_fail he).elim
    · rename_i key hkey
      split at he
      · rw [T.den] at he; cases he
      · rename_i L hL
        split at he
        · rw [T.den] at he; cases he
        · rename_i x0 hx0
          obtain ⟨z, h1, h2⟩ := den_bnd he
          cases hn : normO pre (loopBase nm key) L.keep s with
          | none => rw [hn] at hx0; cases hx0
          | some s0 =>
          rw [hn] at hx0
          obtain ⟨β1, h3, h4⟩ := normO_sound hle hpre hs hn
          have h5 := SSh.get_sr hx0 h4
          refine wp_loop_nat (fun n a' w' => ∃ y β', iter (fun y => (roundT pre (loopBase nm key) L (evCode Γ call fn nm pre x) y).den) n y = some z ∧ β0.le β' ∧ SR β' base (L.sh.fill y) a' w' ∧ Below base w w') (n := L.fuel x0) ⟨x0, β1, h1, h3, h5, Below.refl _ _⟩ fun n a' w' hJ => ?_
          obtain ⟨y, β', g1, g2, g3, g4⟩ := hJ
          cases n with
          | zero => cases g1
          | succ m =>
            rw [iter] at g1
            cases hB : (roundT pre (loopBase nm key) L (evCode Γ call fn nm pre x) y).den with
            | none => rw [hB] at g1; cases g1
            | some q =>
              rw [hB] at g1
              simp only [Option.bind_some] at g1
              unfold roundT at hB
              obtain ⟨⟨e, s'⟩, k1, k2⟩ := den_bind_some hB
              refine ih hc _ β' _ a' w' g2 g3 (e, s') k1 fun a2 w2 ⟨β2, l1, l2, l3⟩ => ?_
              have exit : ∀ (hne : e ≠ .nrm) (z' : ExDen L.exits), exGet pre (loopBase nm key) L.exits e s' = some z' → z' = z → Q (exOf e) a2 w2 := by
                intro _ z' hz' ez
                subst ez
                obtain ⟨s2, m1, m2⟩ := exGet_sound (base := base) hpre L.exits e s' z' hz'
                rw [m1] at h2
                cases h2
                obtain ⟨β3, m3, m4⟩ := m2 β2 a2 w2 l1 l2
                exact hQ a2 w2 ⟨β3, m3, m4, g4.trans l3⟩
              cases e with
              | nrm =>
                dsimp only at k2
                split at k2
                · rename_i y' hy'
                  have := den_ret k2
                  subst this
                  cases hn' : normO pre (loopBase nm key) L.keep s' with
                  | none => rw [hn'] at hy'; cases hy'
                  | some s1 =>
                    rw [hn'] at hy'
                    obtain ⟨β3, m1, m2⟩ := normO_sound l1 hpre l2 hn'
                    exact ⟨m, Nat.lt_succ_self m, y', β3, g1, m1, SSh.get_sr hy' m2, g4.trans l3⟩
                · rw [T.den] at k2; cases k2
              | ext i =>
                dsimp only at k2
                split at k2
                · rename_i z' hz'
                  have := den_ret k2
                  subst this
                  exact exit (by simp) z' hz' (by simpa using g1)
                · rw [T.den] at k2; cases k2
              | ret =>
                dsimp only at k2
                split at k2
                · rename_i z' hz'
                  have := den_ret k2
                  subst this
                  exact exit (by simp) z' hz' (by simpa using g1)
                · rw [T.den] at k2; cases k2
end
end Go.Ab

/-
  Functions: what a call does.
-/
namespace Go.Ab
open Go.RowKit

/-- what is asked of the functions that are walked -/
structure FnsOk (Γ : Ctx) : Prop where
  ok : ∀ f fn c, Γ.fns f = some fn → fn.body = some c → (fn.name == "runtime.NumGoroutine") = false ∧ codeOk c = true

theorem callFunc_enter {P : Program} {f : FuncId} {fn : Func} {c : Code} (hf : P.funcs[f]? = some fn) (hname : (fn.name == "runtime.NumGoroutine") = false) (hb : fn.body = some c) (args : Array Value) (w : World) :
    (callFunc f args).run P w = .ok (.enter f args) w := by
  have h1 : fn.name ≠ "runtime.NumGoroutine" := by simpa using hname
  simp [callFunc, hf, h1, hb]

section
variable {P : Program} {Γ : Ctx}

theorem resA_run (hΓ : TysOk P Γ) {β : Bt} {h : Heap} {w : World} {base : Nat} (hr : Rep β h w base) {tm : List AV} {us : Array Value} (ht : VReps β tm us.toList) (g : ResultVar → Sem Value) (hg1 : ∀ t, g (.tmp t) = pure (us.getD t undef)) (hg2 : ∀ c t, g (.cell c t) = do loadVar t (← asAddr (us.getD c undef))) : ∀ (l : List ResultVar) (vs : List AV), (resA Γ tm h l).den = some vs →
    ∃ rs : List Value, (l.mapM (m := Sem) g).run P w = .ok rs w ∧ VReps β vs rs
  | [], vs, he => by
    have := den_ret he
    subst this
    exact ⟨[], rfl, .nil⟩
  | .tmp t :: r, vs, he => by
    obtain ⟨l, h1, h2⟩ := den_bind_some he
    have := den_ret h2
    subst this
    obtain ⟨rs, h3, h4⟩ := resA_run hΓ hr ht g hg1 hg2 r l h1
    refine ⟨us.getD t undef :: rs, ?_, .cons _ _ _ _ ?_ h4⟩
    · rw [List.mapM_cons, hg1]
      simp only [Sem.run_bind, Sem.run_pure, Result.andThen_ok, h3]
    · have := ht.getD t undef
      simpa [Array.getD_eq_getD_getElem?] using this
  | .cell c t :: r, vs, he => by
    obtain ⟨v, h0, he'⟩ := den_bind_some he
    obtain ⟨l, h1, h2⟩ := den_bind_some he'
    have := den_ret h2
    subst this
    obtain ⟨rs, h3, h4⟩ := resA_run hΓ hr ht g hg1 hg2 r l h1
    have hv := ht.getD c undef
    have hv' : VRep β (tm.getD c .top) (us.getD c undef) := by simpa [Array.getD_eq_getD_getElem?] using hv
    obtain ⟨ad, h5, u, h6, h7⟩ := loadA_run (P := P) hΓ (Sub.refl' h) hr t _ _ hv' v h0
    refine ⟨u :: rs, ?_, .cons _ _ _ _ h7 h4⟩
    have h5' : (asAddr (us.getD c undef)).run P w = .ok ad w := by rw [h5]; rfl
    rw [List.mapM_cons, hg2]
    simp only [Sem.run_bind, h5', Sem.run_pure, Result.andThen_ok, h6, h3]

theorem hget_mem {h : Heap} {n : Nat} {b : Blk} (hn : hget h n = some b) : n ∈ h.map (·.1) := by
  induction h with
  | nil => cases hn
  | cons p r ih =>
    obtain ⟨m, c⟩ := p
    by_cases e : m = n
    · subst e; exact List.mem_cons_self
    · rw [hget_cons_ne _ _ e] at hn
      exact List.mem_cons_of_mem _ (ih hn)

theorem VReps.replicate_top (β : Bt) (n : Nat) (u : Value) : VReps β (List.replicate n .top) (List.replicate n u) := by
  induction n with
  | zero => exact .nil
  | succ n ih => exact .cons _ _ _ _ (.top _) ih

theorem evBody_sound {call : CallF} (hΓ : CtxOk P Γ) (hF : FnsOk Γ) (hcall : CallsOk P call) (β : Bt) (w : World) (base : Nat) (h : Heap) (f : Nat) (as : List AV) (args : Array Value) (nm : Nat) (r : AV × Heap) (hr : Rep β h w base) (hb : base ≤ w.heap.size)
    (ha : VReps β as args.toList) (he : (evBody Γ call f as h nm).den = some r) : CallOr P f args w (Post β w base r.1 r.2) := by
  unfold evBody at he
  split at he
  · exact (den_fail he).elim
  · rename_i fn hfn
    split at he
    · exact (den_fail he).elim
    · rename_i c hc
      obtain ⟨hname, hcode⟩ := hF.ok f fn c hfn hc
      have hPf := hΓ.fns f fn hfn
      obtain ⟨⟨e, s'⟩, h1, h2⟩ := den_bind_some he
      unfold CallOr
      rw [callFunc_enter hPf hname hc args w]
      refine calls_of_wp hPf hc ?_
      have hlen : as.length = args.size := by rw [ha.length]; simp
      have hs : SR β base ⟨as ++ List.replicate (fn.ntmps - as.length) .top, h⟩ { tmps := args ++ Array.replicate (fn.ntmps - args.size) undef, defers := [] } w := by
        refine ⟨?_, hr, hb, rfl⟩
        show VReps β _ (args ++ Array.replicate (fn.ntmps - args.size) undef).toList
        rw [Array.toList_append, Array.toList_replicate, hlen]
        exact ha.append (VReps.replicate_top β _ _)
      have hpre : ∀ n l, β n = some l → n ∈ h.map (·.1) := by
        intro n l hn
        cases hg : hget h n with
        | some b => exact hget_mem hg
        | none => rw [hr.dom n hg] at hn; cases hn
      refine evCode_sound hΓ hcall f nm (h.map (·.1)) β hpre c hcode _ β _ _ w β.le_refl hs (e, s') h1 fun a' w' ⟨β', g1, g2, g3⟩ => ?_
      have fin : ((resA Γ s'.tm s'.hp fn.results.toList).bind fun l => (.ret (match l with | [v] => v | vs => .tup vs, s'.hp) : T (AV × Heap))).den = some r →
          a'.defers = [] ∧ ∃ v, (results fn a'.tmps).run P w' = .ok v w' ∧ ∃ u, Ending.returned v = .returned u ∧ Post β w base r.1 r.2 u w' := by
        intro h2
        refine ⟨g2.defers, ?_⟩
        obtain ⟨l, h3, h4⟩ := den_bind_some h2
        have := den_ret h4
        subst this
        obtain ⟨rs, h5, h6⟩ := resA_run (P := P) hΓ.tys g2.rep g2.tm (fun | .tmp t => pure (a'.tmps.getD t undef) | .cell a t => do loadVar t (← asAddr (a'.tmps.getD a undef))) (fun t => rfl) (fun c t => rfl) fn.results.toList l h3
        refine ⟨if h : rs.toArray.size = 1 then rs.toArray[0] else .tuple rs.toArray, ?_, _, rfl, β', g1, g2.rep, ?_, g3⟩
        · unfold results
          rw [Array.mapM_eq_mapM_toList]
          rw [Sem.run_bind, Sem.run_map]
          have h5' := congrArg (fun z => (z.andThen fun a w' => Result.ok a.toArray w').andThen fun a w' => Sem.run P (pure (if h : a.size = 1 then a[0] else Value.tuple a)) w') h5
          exact h5'
        · cases h6 with
          | nil => exact .tup _ _ .nil
          | cons v u l' s' k1 k2 =>
            cases k2 with
            | nil => exact k1
            | cons v2 u2 l2 s2 k3 k4 =>
              have : ¬ (u :: u2 :: s2).toArray.size = 1 := by simp
              rw [dif_neg this]
              exact .tup _ _ (.cons _ _ _ _ k1 (.cons _ _ _ _ k3 k4))
      cases e with
      | nrm => exact fin h2
      | ret => exact fin h2
      | ext i => exact (den_fail h2).elim

theorem evCall_sound (hΓ : CtxOk P Γ) (hF : FnsOk Γ) : ∀ d, CallsOk P (evCall Γ d)
  | 0 => fun β w base h f as args nm r hr hb ha he => (den_fail he).elim
  | d + 1 => fun β w base h f as args nm r hr hb ha he => by
    unfold evCall at he
    split at he
    · rename_i s hs
      obtain ⟨x, h1, h2⟩ := den_bind_some he
      obtain ⟨_, hd, hn⟩ := addNew_den h2
      have := useSpec_post (hΓ.spec _ _ hs) (Sub.refl' h) hr as args ha nm x h1 hd (fun n b hg => hr.dom n (hn n b hg))
      exact this.mono fun u w' hp => post_of_add hr hb h2 hp
    · exact evBody_sound hΓ hF (evCall_sound hΓ hF d) β w base h f as args nm r hr hb ha he
end
end Go.Ab

/-
  A function as a plain function of data: it is told rightly.
-/
namespace Go.Ab
open Go.RowKit

/-! ### Arguments -/
def Ext (β : Bt) (ls : List (Nat × Loc)) : Prop := ∀ n l, (n, l) ∈ ls → β n = some l

theorem ext_left {β : Bt} {a b : List (Nat × Loc)} (h : Ext β (a ++ b)) : Ext β a := fun n l hn => h n l (List.mem_append_left _ hn)
theorem ext_right {β : Bt} {a b : List (Nat × Loc)} (h : Ext β (a ++ b)) : Ext β b := fun n l hn => h n l (List.mem_append_right _ hn)

structure AOk (w : World) (nm j j' : Nat) (h : Heap) (ls : List (Nat × Loc)) : Prop where
  le : j ≤ j'
  names : ls.map (·.1) = h.map (·.1)
  rng : ∀ n, n ∈ h.map (·.1) → nm + j ≤ n ∧ n < nm + j'
  nodup : (h.map (·.1)).Nodup
  blk : ∀ n b, (n, b) ∈ h → ∃ l, (n, l) ∈ ls ∧ b.own = false ∧ ∀ β, Ext β ls → BRep β w w.heap.size l b

theorem AOk.nil (w : World) (nm j : Nat) : AOk w nm j j [] [] := ⟨Nat.le_refl _, rfl, fun n h => (by cases h), List.nodup_nil, fun n b h => (by cases h)⟩

theorem AOk.append {w : World} {nm j k m : Nat} {h h' : Heap} {ls ls' : List (Nat × Loc)} (a : AOk w nm j k h ls) (b : AOk w nm k m h' ls') : AOk w nm j m (h ++ h') (ls ++ ls') := by
  refine ⟨Nat.le_trans a.le b.le, by rw [List.map_append, List.map_append, a.names, b.names], fun n hn => ?_, ?_, fun n c hn => ?_⟩
  · rw [List.map_append, List.mem_append] at hn
    have h1 := a.le
    have h2 := b.le
    rcases hn with hn | hn
    · have := a.rng n hn; omega
    · have := b.rng n hn; omega
  · rw [List.map_append]
    refine List.nodup_append.2 ⟨a.nodup, b.nodup, fun x hx y hy e => ?_⟩
    have h1 := a.rng x hx
    have h2 := b.rng y hy
    omega
  · rcases List.mem_append.1 hn with hn | hn
    · obtain ⟨l, h1, h2, h3⟩ := a.blk n c hn
      exact ⟨l, List.mem_append_left _ h1, h2, fun β hβ => h3 β (ext_left hβ)⟩
    · obtain ⟨l, h1, h2, h3⟩ := b.blk n c hn
      exact ⟨l, List.mem_append_right _ h1, h2, fun β hβ => h3 β (ext_right hβ)⟩

theorem list_ok {w : World} (nm : Nat) {κ : EK} {l : List κ.den} {u : Value} (j : Nat) (h : ListAt w κ l u) :
    ∃ ls, AOk w nm j (j + 1) [(nm + j, .arr false κ l)] ls ∧ ∀ β, Ext β ls → VRep β (.slc (nm + j) 0 l.length) u := by
  obtain ⟨a, cap, rfl, hcap, hc⟩ := h
  have mk : ∀ loc : Loc, loc.own = false → loc.len = l.length → loc.es = κ.size → (∀ β, CRep β w loc (l.flatMap κ.cells)) → ((l.flatMap κ.cells) ≠ [] → loc.blk < w.heap.size) → AOk w nm j (j + 1) [(nm + j, .arr false κ l)] [(nm + j, loc)] := by
    intro loc h1 h2 h3 h4 h5
    refine ⟨by omega, rfl, fun n hn => ?_, by simp, fun n b hn => ?_⟩
    · simp at hn; omega
    · simp only [List.mem_singleton, Prod.mk.injEq] at hn
      obtain ⟨rfl, rfl⟩ := hn
      exact ⟨loc, List.mem_singleton_self _, rfl, fun β _ => ⟨h1, h2, h3, h4 β, fun h => (by cases h), fun h => (by cases h), fun _ hne => h5 hne⟩⟩
  by_cases h0 : l = []
  · subst h0
    refine ⟨[(nm + j, ⟨0, 0, 0, 0, κ.size, false⟩)], mk _ rfl rfl rfl (fun β j v hj => by simp at hj) (fun h => absurd rfl h), fun β hβ => ?_⟩
    exact .slc _ _ _ ⟨0, 0, 0, 0, κ.size, false⟩ _ _ (hβ _ _ (List.mem_singleton_self _)) ⟨by simp, .inl ⟨rfl, fun h => (by cases h)⟩⟩
  · rcases hc with hc | ⟨blk, o, ha, hc⟩
    · exact absurd hc h0
    · subst ha
      refine ⟨[(nm + j, ⟨blk, o, 0, l.length, κ.size, false⟩)], mk _ rfl rfl rfl (fun β j v hj => ?_) (fun hne => ?_), fun β hβ => ?_⟩
      · obtain ⟨u, hu, hv⟩ := hc j v hj
        exact ⟨u, hu, ek_flat hj hv⟩
      · obtain ⟨u, hu, _⟩ := hc 0 _ (List.getElem?_eq_getElem (List.length_pos_iff.2 hne))
        exact cell_lt hu
      · refine .slc _ _ _ ⟨blk, o, 0, l.length, κ.size, false⟩ _ _ (hβ _ _ (List.mem_singleton_self _)) ⟨by simp, .inr ⟨by simp, hcap, fun h => (by cases h)⟩⟩

theorem arg_ok {w : World} (nm : Nat) : ∀ (d : DS) (x : d.den) (u : Value) (j : Nat), DRep w d x u → ∃ ls, AOk w nm j (DS.arg nm d x j).2.2 (DS.arg nm d x j).2.1 ls ∧ ∀ β, Ext β ls → VRep β (DS.arg nm d x j).1 u
  | .bool, x, u, j, h => ⟨[], .nil w nm j, fun β _ => by have h' : u = .bool x := h; subst h'; exact .bs x⟩
  | .int k, x, u, j, h => ⟨[], .nil w nm j, fun β _ => by have h' : u = .int k x := h; subst h'; exact .int k x⟩
  | .flt k, x, u, j, h => ⟨[], .nil w nm j, fun β _ => by obtain ⟨b, h1, rfl⟩ := h; exact .flt k x b h1⟩
  | .cpx k, x, u, j, h => ⟨[], .nil w nm j, fun β _ => by obtain ⟨a, b, h1, h2, rfl⟩ := h; exact .cpx k _ _ a b h1 h2⟩
  | .str, x, u, j, h => ⟨[], .nil w nm j, fun β _ => by have h' : u = .string x := h; subst h'; exact .str x⟩
  | .list κ, l, u, j, h => list_ok nm j h
  | .agg _, _, u, j, _ => ⟨[], .nil w nm j, fun β _ => .top u⟩
  | .ptr _, _, u, j, _ => ⟨[], .nil w nm j, fun β _ => .top u⟩

theorem argCells_ok {w : World} (nm : Nat) : ∀ (d : List DS) (x : DS.dens d) (us : List Value) (j : Nat), DReps w d x us → ∃ ls, AOk w nm j (DS.argCells nm d x j).2.2 (DS.argCells nm d x j).2.1 ls ∧ ∀ β, Ext β ls → VReps β (DS.argCells nm d x j).1 us
  | [], x, us, j, h => ⟨[], .nil w nm j, fun β _ => by have h' : us = [] := h; subst h'; exact .nil⟩
  | [d], x, us, j, h => by
    obtain ⟨v, rfl, hv⟩ := h
    obtain ⟨ls, h1, h2⟩ := arg_ok nm d x v j hv
    exact ⟨ls, h1, fun β hβ => .one (h2 β hβ)⟩
  | d :: e :: r, x, us, j, h => by
    obtain ⟨v, s, rfl, hv, hs⟩ := h
    obtain ⟨ls, h1, h2⟩ := arg_ok nm d x.1 v j hv
    obtain ⟨ls', h3, h4⟩ := argCells_ok nm (e :: r) x.2 s _ hs
    exact ⟨ls ++ ls', h1.append h3, fun β hβ => .cons _ _ _ _ (h2 β (ext_left hβ)) (h4 β (ext_right hβ))⟩

/-- no pointer, but to a struct -/
def DS.noPtr : DS → Bool
  | .ptr (.agg (_ :: _)) => true
  | .ptr _ => false
  | _ => true

theorem DReps.lenTop {w : World} : ∀ (d : List DS) (x : DS.dens d) (us : List Value), DReps w d x us → us.length = d.length
  | [], _, us, h => by have h' : us = [] := h; subst h'; rfl
  | [d], x, us, h => by obtain ⟨v, rfl, _⟩ := h; rfl
  | d :: e :: r, x, us, h => by
    obtain ⟨v, s, rfl, _, hs⟩ := h
    have := DReps.lenTop (e :: r) x.2 s hs
    simp only [List.length_cons] at this ⊢
    omega

theorem argPtr_ok {w : World} (nm : Nat) (l : List DS) (hl : l ≠ []) (x : DS.dens l) (u : Value) (j : Nat) (h : DRep w (.ptr (.agg l)) x u) :
    ∃ ls, AOk w nm j (DS.argCells nm l x (j + 1)).2.2 ((nm + j, .vals false (DS.argCells nm l x (j + 1)).1) :: (DS.argCells nm l x (j + 1)).2.1) ls ∧ ∀ β, Ext β ls → VRep β (.ptr (nm + j) 0 0) u := by
  obtain ⟨blk, o, rfl, us, hc, hx⟩ := h
  obtain ⟨ls, hA, hv⟩ := argCells_ok nm l x us (j + 1) hx
  have hlen := DReps.lenTop l x us hx
  have hpos : 0 < us.length := by
    rw [hlen]; exact List.length_pos_iff.2 hl
  let loc : Loc := ⟨blk, o, 0, us.length, 1, false⟩
  have hle := hA.le
  refine ⟨(nm + j, loc) :: ls, ⟨by omega, by rw [List.map_cons, List.map_cons, hA.names], fun n hn => ?_, ?_, fun n b hn => ?_⟩, fun β hβ => ?_⟩
  · rw [List.map_cons, List.mem_cons] at hn
    rcases hn with rfl | hn
    · exact ⟨Nat.le_refl _, by omega⟩
    · have := hA.rng n hn; omega
  · rw [List.map_cons, List.nodup_cons]
    exact ⟨fun hm => by have := hA.rng _ hm; omega, hA.nodup⟩
  · rcases List.mem_cons.1 hn with hn | hn
    · cases hn
      refine ⟨loc, List.mem_cons_self, rfl, fun β hβ => ?_⟩
      have hvs := hv β (fun n l h => hβ n l (List.mem_cons_of_mem _ h))
      refine ⟨rfl, ?_, rfl, fun i v hi => ?_, fun h => (by cases h), fun h => (by cases h), fun _ _ => ?_⟩
      · show us.length = (DS.argCells nm l x (j + 1)).1.length
        exact hvs.length.symm
      · obtain ⟨u, hu, hvu⟩ := hvs.get i hi
        exact ⟨u, hc i u hu, hvu⟩
      · exact cell_lt (hc 0 _ (List.getElem?_eq_getElem hpos))
    · obtain ⟨l0, h1, h2, h3⟩ := hA.blk n b hn
      exact ⟨l0, List.mem_cons_of_mem _ h1, h2, fun β hβ => h3 β (fun n l h => hβ n l (List.mem_cons_of_mem _ h))⟩
  · have hp : β (nm + j) = some loc := hβ _ _ List.mem_cons_self
    exact .ptr (nm + j) 0 0 loc hp hpos Nat.one_pos

theorem argTop_ok {w : World} (nm : Nat) (d : DS) (hp : d.noPtr = true) (x : d.den) (u : Value) (j : Nat) (h : DRep w d x u) : ∃ ls, AOk w nm j (DS.argTop nm d x j).2.2 (DS.argTop nm d x j).2.1 ls ∧ ∀ β, Ext β ls → VRep β (DS.argTop nm d x j).1 u := by
  cases d with
  | agg l =>
    obtain ⟨cs, rfl, hc⟩ := h
    obtain ⟨ls, h1, h2⟩ := argCells_ok nm l x cs.toList j hc
    exact ⟨ls, h1, fun β hβ => .agg _ _ (h2 β hβ)⟩
  | ptr d =>
    match d, hp, x, h with
    | .agg (e :: r), _, x, h => exact argPtr_ok nm (e :: r) (by simp) x u j h
  | bool => exact arg_ok nm .bool x u j h
  | int k => exact arg_ok nm (.int k) x u j h
  | flt k => exact arg_ok nm (.flt k) x u j h
  | cpx k => exact arg_ok nm (.cpx k) x u j h
  | str => exact arg_ok nm .str x u j h
  | list κ => exact arg_ok nm (.list κ) x u j h

theorem argAll_ok {w : World} (nm : Nat) : ∀ (d : List DS) (_ : d.all DS.noPtr = true) (x : DS.dens d) (us : List Value) (j : Nat), DReps w d x us → ∃ ls, AOk w nm j (DS.argAll nm d x j).2.2 (DS.argAll nm d x j).2.1 ls ∧ ∀ β, Ext β ls → VReps β (DS.argAll nm d x j).1 us
  | [], _, x, us, j, h => ⟨[], .nil w nm j, fun β _ => by have h' : us = [] := h; subst h'; exact .nil⟩
  | [d], hp, x, us, j, h => by
    obtain ⟨v, rfl, hv⟩ := h
    obtain ⟨ls, h1, h2⟩ := argTop_ok nm d (by simpa using hp) x v j hv
    exact ⟨ls, h1, fun β hβ => .one (h2 β hβ)⟩
  | d :: e :: r, hp, x, us, j, h => by
    rw [List.all_cons, Bool.and_eq_true] at hp
    obtain ⟨v, s, rfl, hv, hs⟩ := h
    obtain ⟨ls, h1, h2⟩ := argTop_ok nm d hp.1 x.1 v j hv
    obtain ⟨ls', h3, h4⟩ := argAll_ok nm (e :: r) hp.2 x.2 s _ hs
    exact ⟨ls ++ ls', h1.append h3, fun β hβ => .cons _ _ _ _ (h2 β (ext_left hβ)) (h4 β (ext_right hβ))⟩

theorem lget_mem {ls : List (Nat × Loc)} {n : Nat} {l : Loc} (hm : (n, l) ∈ ls) (hn : (ls.map (·.1)).Nodup) : lget ls n = some l := by
  induction ls with
  | nil => cases hm
  | cons p r ih =>
    obtain ⟨m, k⟩ := p
    unfold lget
    rw [List.map_cons, List.nodup_cons] at hn
    cases hb : Nat.beq m n with
    | true =>
      have := Nat.eq_of_beq_eq_true hb
      subst this
      rcases List.mem_cons.1 hm with h | h
      · cases h; rfl
      · exact absurd (List.mem_map.2 ⟨(m, l), h, rfl⟩) hn.1
    | false =>
      rcases List.mem_cons.1 hm with h | h
      · cases h; rw [Nat.beq_refl] at hb; cases hb
      · exact ih h hn.2

theorem lget_some {ls : List (Nat × Loc)} {n : Nat} {l : Loc} (h : lget ls n = some l) : n ∈ ls.map (·.1) := by
  induction ls with
  | nil => cases h
  | cons p r ih =>
    obtain ⟨m, k⟩ := p
    unfold lget at h
    cases hb : Nat.beq m n with
    | true => rw [Nat.eq_of_beq_eq_true hb]; exact List.mem_cons_self
    | false => rw [hb] at h; exact List.mem_cons_of_mem _ (ih h)

theorem hget_pair {h : Heap} {n : Nat} {b : Blk} (hn : hget h n = some b) : (n, b) ∈ h := by
  induction h with
  | nil => cases hn
  | cons p r ih =>
    obtain ⟨m, c⟩ := p
    by_cases e : m = n
    · subst e; rw [hget_cons_self] at hn; cases hn; exact List.mem_cons_self
    · rw [hget_cons_ne _ _ e] at hn; exact List.mem_cons_of_mem _ (ih hn)

theorem hget_of_mem {h : Heap} {n : Nat} (hn : n ∈ h.map (·.1)) : ∃ b, hget h n = some b := by
  induction h with
  | nil => cases hn
  | cons p r ih =>
    obtain ⟨m, c⟩ := p
    by_cases e : m = n
    · subst e; exact ⟨c, hget_cons_self _ _ _⟩
    · rw [List.map_cons, List.mem_cons] at hn
      rcases hn with h | h
      · exact absurd h.symm e
      · obtain ⟨b, hb⟩ := ih h
        exact ⟨b, by rw [hget_cons_ne _ _ e]; exact hb⟩

theorem AOk.rep {w : World} {nm j j' : Nat} {h : Heap} {ls : List (Nat × Loc)} (a : AOk w nm j j' h ls) : Rep (lget ls) h w w.heap.size ∧ Ext (lget ls) ls := by
  have hnd : (ls.map (·.1)).Nodup := by rw [a.names]; exact a.nodup
  have hblk : ∀ n b l, hget h n = some b → lget ls n = some l → b.own = false ∧ BRep (lget ls) w w.heap.size l b := by
    intro n b l hn hl
    obtain ⟨l0, h1, h2, h3⟩ := a.blk n b (hget_pair hn)
    rw [lget_mem h1 hnd] at hl; cases hl
    exact ⟨h2, h3 _ fun n l hm => lget_mem hm hnd⟩
  refine ⟨⟨fun n hn => ?_, fun n b hn => ?_, fun n b l hn _ hl => (hblk n b l hn hl).2, fun n m b b' l l' _ hn _ _ _ hl _ ho => ?_⟩, fun n l hm => lget_mem hm hnd⟩
  · cases hl : lget ls n with
    | none => rfl
    | some l =>
      obtain ⟨b, hb⟩ := hget_of_mem (a.names ▸ lget_some hl)
      rw [hb] at hn; cases hn
  · obtain ⟨l0, h1, _⟩ := a.blk n b (hget_pair hn)
    exact ⟨l0, lget_mem h1 hnd⟩
  · obtain ⟨h1, h2⟩ := hblk n b l hn hl
    rw [h2.own, h1] at ho; cases ho

/-! ### Results -/
def blOf (β : Bt) (n : Nat) : Option Nat :=
  match β n with
  | some l => if l.size = 0 then none else some l.blk
  | none => none

section
variable {β : Bt} {h : Heap} {w : World} {base : Nat}

theorem ownOf_one {v : AV} {ns : List Nat} (ho : ownOf h [v] = some ns) : (∃ n o m κ l, v = .slc n o m ∧ hget h n = some (.arr true κ l) ∧ ns = [n]) ∨ (ns = [] ∧ ∀ n o m, v ≠ .slc n o m) := by
  cases v <;> simp only [ownOf] at ho <;> try (cases ho)
  case slc n o m =>
    split at ho
    · rename_i κ l hg
      simp only [Option.map_some, Option.some.injEq] at ho
      exact .inl ⟨n, o, m, κ, l, rfl, hg, ho.symm⟩
    · cases ho
  all_goals exact .inr ⟨rfl, fun _ _ _ e => by cases e⟩

theorem ownOf_cons {v : AV} {r : List AV} {ns : List Nat} (ho : ownOf h (v :: r) = some ns) : ∃ n1 n2, ownOf h [v] = some n1 ∧ ownOf h r = some n2 ∧ ns = n1 ++ n2 := by
  cases v <;> simp only [ownOf] at ho ⊢ <;> try (cases ho)
  case slc n o m =>
    split at ho
    · rename_i κ l hg
      cases hr : ownOf h r with
      | none => rw [hr] at ho; cases ho
      | some n2 =>
        rw [hr] at ho
        simp only [Option.map_some, Option.some.injEq] at ho
        exact ⟨[n], n2, rfl, rfl, by rw [← ho]; rfl⟩
    · cases ho
  all_goals exact ⟨[], ns, rfl, ho, rfl⟩

theorem outC (hr : Rep β h w base) : ∀ (d : DS) (v : AV) (x : d.den) (u : Value) (ns : List Nat), d.read h v = some x → VRep β v u → ownOf h [v] = some ns → ∃ bl, DOutC w base d x u bl ∧ bl.Sublist (ns.filterMap (blOf β)) := by
  intro d v x u ns hread hv ho
  have base0 := read_rep (Sub.refl' h) hr d v x u hread hv
  cases d with
  | bool => exact ⟨[], ⟨base0, rfl⟩, List.nil_sublist _⟩
  | int k => exact ⟨[], ⟨base0, rfl⟩, List.nil_sublist _⟩
  | flt k => exact ⟨[], ⟨base0, rfl⟩, List.nil_sublist _⟩
  | cpx k => exact ⟨[], ⟨base0, rfl⟩, List.nil_sublist _⟩
  | str => exact ⟨[], ⟨base0, rfl⟩, List.nil_sublist _⟩
  | agg l => cases v <;> simp only [DS.read] at hread <;> first | (cases hread; done) | (simp only [ownOf] at ho; cases ho)
  | ptr d => cases v <;> simp only [DS.read] at hread <;> first | (cases hread; done) | (simp only [ownOf] at ho; cases ho)
  | list κ =>
    rcases ownOf_one ho with ⟨n, o, m, κ', l, rfl, hg, rfl⟩ | ⟨rfl, hno⟩
    · simp only [DS.read, hg] at hread
      split at hread
      · rename_i e
        subst e
        cases hread
        cases hv with
        | slc _ _ _ loc a cap hl hok =>
        have hB := hr.blk n _ loc hg trivial hl
        have hown : loc.own = true := hB.own
        have hes : loc.es = κ'.size := hB.es
        have hlen : loc.len = l.length := hB.len
        obtain ⟨h1, h2⟩ := hok
        have hsub : (sub l o m).length = m := sub_length l (by omega)
        have hp := κ'.size_pos
        rcases h2 with ⟨rfl, h3⟩ | ⟨rfl, h3, h4⟩
        · have := h3 hown
          subst this
          exact ⟨[], ⟨a, 0, by rw [show (Eq.refl κ' ▸ sub l o 0 : List κ'.den) = sub l o 0 from rfl, hsub], .inl ⟨List.eq_nil_of_length_eq_zero hsub, rfl, rfl⟩⟩, List.nil_sublist _⟩
        · have h4 := h4 hown
          rw [hes] at h4
          by_cases hz : loc.size = 0
          · have hcap : cap = 0 := by
              rcases Nat.eq_zero_or_pos cap with h | h
              · exact h
              · have : 1 * 1 ≤ (o + cap) * κ'.size := Nat.mul_le_mul (by omega) hp
                omega
            subst hcap
            have hm0 : m = 0 := by omega
            subst hm0
            exact ⟨[], ⟨_, 0, by rw [show (Eq.refl κ' ▸ sub l o 0 : List κ'.den) = sub l o 0 from rfl, hsub], .inl ⟨List.eq_nil_of_length_eq_zero hsub, rfl, rfl⟩⟩, List.nil_sublist _⟩
          · obtain ⟨g1, g2, g3⟩ := hB.mine rfl (by omega)
            refine ⟨[loc.blk], ⟨_, cap, by rw [show (Eq.refl κ' ▸ sub l o m : List κ'.den) = sub l o m from rfl, hsub], .inr ⟨loc.blk, loc.off + o * κ'.size, loc.size, by rw [hes], by rw [show (Eq.refl κ' ▸ sub l o m : List κ'.den) = sub l o m from rfl, hsub]; exact h3, by rw [Nat.add_mul] at h4; omega, g1, g2, g3, fun j y hj => ?_, rfl⟩⟩, ?_⟩
            · have hj' : ((sub l o m).flatMap κ'.cells)[j]? = some y := hj
              have hj0 := hj'
              rw [sub_flat, List.getElem?_take] at hj'
              split at hj'
              · rw [List.getElem?_drop] at hj'
                obtain ⟨u, hu, hvv⟩ := hB.cells (o * κ'.size + j) y hj'
                exact ⟨u, by rw [Nat.add_assoc]; exact hu, ek_flat hj0 hvv⟩
              · cases hj'
            · have : blOf β n = some loc.blk := by unfold blOf; rw [hl]; simp [hz]
              rw [List.filterMap_cons, this]; exact List.Sublist.refl _
      · cases hread
    · cases v <;> simp only [DS.read] at hread <;> try (cases hread; done)
      case slc n o m => exact absurd rfl (hno n o m)
      case nils κ' =>
        cases hread
        cases hv with
        | nils _ a => exact ⟨[], ⟨a, 0, rfl, .inl ⟨rfl, rfl, rfl⟩⟩, List.nil_sublist _⟩

theorem outCs (hr : Rep β h w base) : ∀ (d : List DS) (vs : List AV) (x : DS.dens d) (us : List Value) (ns : List Nat), DS.reads h d vs = some x → VReps β vs us → ownOf h vs = some ns → ∃ bl, DOutCs w base d x us bl ∧ bl.Sublist (ns.filterMap (blOf β))
  | [], [], x, us, ns, _, hv, _ => by cases hv; exact ⟨[], ⟨rfl, rfl⟩, List.nil_sublist _⟩
  | [], _ :: _, x, us, ns, h, _, _ => by simp [DS.reads] at h
  | [d], [], x, us, ns, h, _, _ => by simp [DS.reads] at h
  | [d], [v], x, us, ns, h, hv, ho => by
    cases hv with
    | cons _ u _ s h1 h2 =>
    cases h2
    obtain ⟨bl, h3, h4⟩ := outC hr d v x u ns h h1 ho
    exact ⟨bl, ⟨u, rfl, h3⟩, h4⟩
  | [d], _ :: _ :: _, x, us, ns, h, _, _ => by simp [DS.reads] at h
  | d :: e :: r, [], x, us, ns, h, _, _ => by simp [DS.reads] at h
  | d :: e :: r, v :: vs, x, us, ns, h, hv, ho => by
    simp only [DS.reads] at h
    cases h1 : d.read _ v with
    | none => rw [h1] at h; cases h
    | some y =>
    cases h2 : DS.reads _ (e :: r) vs with
    | none => rw [h1, h2] at h; cases h
    | some z =>
    rw [h1, h2] at h; cases h
    cases hv with
    | cons _ u _ s k1 k2 =>
    obtain ⟨n1, n2, o1, o2, rfl⟩ := ownOf_cons ho
    obtain ⟨b1, g1, g2⟩ := outC hr d v y u n1 h1 k1 o1
    obtain ⟨b2, g3, g4⟩ := outCs hr (e :: r) vs z s n2 h2 k2 o2
    exact ⟨b1 ++ b2, ⟨u, s, b1, b2, rfl, rfl, g1, g3⟩, by rw [List.filterMap_append]; exact g2.append g4⟩

theorem ownOf_append : ∀ {a b : List AV} {ns : List Nat}, ownOf h (a ++ b) = some ns → ∃ n1 n2, ownOf h a = some n1 ∧ ownOf h b = some n2 ∧ ns = n1 ++ n2
  | [], b, ns, ho => ⟨[], ns, rfl, ho, rfl⟩
  | v :: r, b, ns, ho => by
    obtain ⟨n1, n2, h1, h2, rfl⟩ := ownOf_cons (r := r ++ b) ho
    obtain ⟨n3, n4, h3, h4, rfl⟩ := ownOf_append h2
    refine ⟨n1 ++ n3, n4, ?_, h4, by simp⟩
    rcases ownOf_one h1 with ⟨n, o, m, κ, l, rfl, hg, rfl⟩ | ⟨rfl, hno⟩
    · simp [ownOf, hg, h3]
    · cases v <;> simp only [ownOf] at h1 ⊢ <;> first | (cases h1; done) | exact h3 | skip
      case slc n o m => exact absurd rfl (hno n o m)

theorem outD (hr : Rep β h w base) (d : DS) (v : AV) (x : d.den) (u : Value) (ns : List Nat) (hread : d.read h v = some x) (hv : VRep β v u) (ho : ownOf h (flatRes [v]) = some ns) : ∃ bl, DOut w base d x u bl ∧ bl.Sublist (ns.filterMap (blOf β)) := by
  have plain : (∀ l, v ≠ .agg l) → ownOf h [v] = some ns := by
    intro hne
    have : flatRes [v] = [v] := by cases v <;> first | rfl | exact absurd rfl (hne _)
    rw [← this]; exact ho
  cases d with
  | agg l =>
    cases v <;> simp only [DS.read] at hread <;> try (cases hread; done)
    rename_i vs
    cases hv with
    | agg _ cs hcs =>
    have : flatRes [.agg vs] = vs := by simp [flatRes]
    rw [this] at ho
    obtain ⟨bl, h1, h2⟩ := outCs hr l vs x cs.toList ns hread hcs ho
    exact ⟨bl, ⟨cs, rfl, h1⟩, h2⟩
  | ptr d =>
    cases v <;> simp only [DS.read] at hread <;> try (cases hread; done)
    have := plain (fun _ e => by cases e)
    simp only [ownOf] at this; cases this
  | bool => exact outC hr .bool v x u ns hread hv (plain fun l e => by subst e; simp [DS.read] at hread)
  | int k => exact outC hr (.int k) v x u ns hread hv (plain fun l e => by subst e; simp [DS.read] at hread)
  | flt k => exact outC hr (.flt k) v x u ns hread hv (plain fun l e => by subst e; simp [DS.read] at hread)
  | cpx k => exact outC hr (.cpx k) v x u ns hread hv (plain fun l e => by subst e; simp [DS.read] at hread)
  | str => exact outC hr .str v x u ns hread hv (plain fun l e => by subst e; simp [DS.read] at hread)
  | list κ => exact outC hr (.list κ) v x u ns hread hv (plain fun l e => by subst e; simp [DS.read] at hread)

theorem flatRes_cons (v : AV) (r : List AV) : flatRes (v :: r) = flatRes [v] ++ flatRes r := by
  cases v <;> simp [flatRes]

theorem outT (hr : Rep β h w base) : ∀ (d : List DS) (vs : List AV) (x : DS.dens d) (us : List Value) (ns : List Nat), DS.reads h d vs = some x → VReps β vs us → ownOf h (flatRes vs) = some ns → ∃ bl, DOutT w base d x us bl ∧ bl.Sublist (ns.filterMap (blOf β))
  | [], [], x, us, ns, _, hv, _ => by cases hv; exact ⟨[], ⟨rfl, rfl⟩, List.nil_sublist _⟩
  | [], _ :: _, x, us, ns, h, _, _ => by simp [DS.reads] at h
  | [d], [], x, us, ns, h, _, _ => by simp [DS.reads] at h
  | [d], [v], x, us, ns, h, hv, ho => by
    cases hv with
    | cons _ u _ s h1 h2 =>
    cases h2
    obtain ⟨bl, h3, h4⟩ := outD hr d v x u ns h h1 ho
    exact ⟨bl, ⟨u, rfl, h3⟩, h4⟩
  | [d], _ :: _ :: _, x, us, ns, h, _, _ => by simp [DS.reads] at h
  | d :: e :: r, [], x, us, ns, h, _, _ => by simp [DS.reads] at h
  | d :: e :: r, v :: vs, x, us, ns, h, hv, ho => by
    simp only [DS.reads] at h
    cases h1 : d.read _ v with
    | none => rw [h1] at h; cases h
    | some y =>
    cases h2 : DS.reads _ (e :: r) vs with
    | none => rw [h1, h2] at h; cases h
    | some z =>
    rw [h1, h2] at h; cases h
    cases hv with
    | cons _ u _ s k1 k2 =>
    rw [flatRes_cons] at ho
    obtain ⟨n1, n2, o1, o2, rfl⟩ := ownOf_append ho
    obtain ⟨b1, g1, g2⟩ := outD hr d v y u n1 h1 k1 o1
    obtain ⟨b2, g3, g4⟩ := outT hr (e :: r) vs z s n2 h2 k2 o2
    exact ⟨b1 ++ b2, ⟨u, s, b1, b2, rfl, rfl, g1, g3⟩, by rw [List.filterMap_append]; exact g2.append g4⟩

theorem nodupB_spec : ∀ (l : List Nat), nodupB l = true → l.Nodup
  | [], _ => List.nodup_nil
  | x :: r, h => by
    unfold nodupB at h
    simp only [Bool.and_eq_true, Bool.not_eq_true'] at h
    refine List.nodup_cons.2 ⟨fun hm => ?_, nodupB_spec r h.2⟩
    have := List.any_eq_false.1 h.1 x hm
    rw [Nat.beq_refl] at this; exact this rfl

/-- all names there are own -/
theorem ownOf_own : ∀ {vs : List AV} {ns : List Nat}, ownOf h vs = some ns → ∀ n ∈ ns, ∃ κ l, hget h n = some (.arr true κ l)
  | [], ns, ho, n, hn => by cases ho; cases hn
  | v :: r, ns, ho, n, hn => by
    obtain ⟨n1, n2, h1, h2, rfl⟩ := ownOf_cons ho
    rcases List.mem_append.1 hn with hn | hn
    · rcases ownOf_one h1 with ⟨m, _, _, κ, l, rfl, hg, rfl⟩ | ⟨rfl, _⟩
      · rw [List.mem_singleton] at hn; subst hn; exact ⟨κ, l, hg⟩
      · cases hn
    · exact ownOf_own h2 n hn

theorem bl_nodup (hr : Rep β h w base) : ∀ (ns : List Nat), ns.Nodup → (∀ n ∈ ns, ∃ κ l, hget h n = some (.arr true κ l)) → (ns.filterMap (blOf β)).Nodup
  | [], _, _ => List.nodup_nil
  | n :: r, hnd, ho => by
    rw [List.nodup_cons] at hnd
    have ih := bl_nodup hr r hnd.2 fun m hm => ho m (List.mem_cons_of_mem _ hm)
    rw [List.filterMap_cons]
    cases hb : blOf β n with
    | none => exact ih
    | some b =>
      refine List.nodup_cons.2 ⟨fun hm => ?_, ih⟩
      obtain ⟨m, hm, hbm⟩ := List.mem_filterMap.1 hm
      have get : ∀ k b, blOf β k = some b → ∃ l, β k = some l ∧ 0 < l.size ∧ l.blk = b := by
        intro k b hk
        unfold blOf at hk
        cases hl : β k with
        | none => rw [hl] at hk; cases hk
        | some l =>
          rw [hl] at hk
          dsimp only at hk
          split at hk
          · cases hk
          · cases hk; exact ⟨l, rfl, by omega, rfl⟩
      obtain ⟨l1, h1, h2, h3⟩ := get n b hb
      obtain ⟨l2, h4, h5, h6⟩ := get m b hbm
      obtain ⟨κ1, e1, g1⟩ := ho n List.mem_cons_self
      obtain ⟨κ2, e2, g2⟩ := ho m (List.mem_cons_of_mem _ hm)
      have hne : n ≠ m := fun e => by subst e; exact hnd.1 hm
      have b1 := hr.blk n _ l1 g1 trivial h1
      have b2 := hr.blk m _ l2 g2 trivial h4
      exact hr.sep n m _ _ l1 l2 hne g1 g2 trivial trivial h1 h4 b1.own b2.own h2 h5 (by rw [h3, h6])
end

/-- THE FUNCTION IS TOLD RIGHTLY. -/
theorem fnF_ok {P : Program} {Γ : Ctx} (hΓ : CtxOk P Γ) (hF : FnsOk Γ) (d f : Nat) (args res : List DS) (hp : args.all DS.noPtr = true) : SpecOk' P f (fnF Γ d f args res) := by
  intro x r hx w vs hv
  have hx' : (fnT Γ d f args res x).den = some r := hx
  unfold fnT at hx'
  obtain ⟨⟨v, h'⟩, h1, h2⟩ := den_bind_some hx'
  obtain ⟨ls, hA, hvs⟩ := argAll_ok 2 args hp x vs.toList 0 hv
  obtain ⟨hr, hext⟩ := hA.rep
  have hcall := evBody_sound hΓ hF (evCall_sound hΓ hF d) (lget ls) w w.heap.size _ f _ vs 1 (v, h') hr (Nat.le_refl _) (hvs _ hext) h1
  refine hcall.mono fun u w' ⟨β', _, hr', hvu, hbel⟩ => ⟨hbel, ?_⟩
  unfold resOut at h2
  dsimp only at h2
  split at h2
  · rename_i ns hns
    generalize hnb : nodupB ns = nb at h2
    cases nb with
    | false => exact (den_fail h2).elim
    | true =>
    have hreads := den_opt h2
    have go : ∀ (l : List AV) (us : List Value), DS.reads h' res l = some r → ownOf h' (flatRes l) = some ns → VReps β' l us → ((∃ v, us = [v] ∧ u = v) ∨ ((∀ v, us ≠ [v]) ∧ u = .tuple us.toArray)) → ∃ bl : List Nat, bl.Nodup ∧ DOutV w' w.heap.size res r u bl := by
      intro l us k1 k2 k3 k4
      obtain ⟨bl, g1, g2⟩ := outT hr' res l r us ns k1 k3 k2
      exact ⟨bl, List.Sublist.nodup g2 (bl_nodup hr' ns (nodupB_spec ns hnb) (ownOf_own k2)), us, g1, k4⟩
    have single : DS.reads h' res [v] = some r → ownOf h' (flatRes [v]) = some ns → ∃ bl : List Nat, bl.Nodup ∧ DOutV w' w.heap.size res r u bl :=
      fun k1 k2 => go [v] [u] k1 k2 (.one hvu) (.inl ⟨u, rfl, rfl⟩)
    have many : (∀ d, res ≠ [d]) → ∀ l, DS.reads h' res l = some r → ∀ us : List Value, VReps β' l us → ∀ v, us ≠ [v] := by
      intro hne l hrd us hus v e
      subst e
      have hl := hus.length
      match res, l with
      | [], [] => cases hl
      | [], _ :: _ => simp [DS.reads] at hrd
      | [d], _ => exact hne d rfl
      | d :: e :: t, [] => cases hl
      | d :: e :: t, [x] =>
        simp only [DS.reads] at hrd
        cases h1 : d.read h' x with
        | none => rw [h1] at hrd; cases hrd
        | some y => rw [h1] at hrd; cases hrd
      | d :: e :: t, _ :: _ :: _ => simp at hl
    match res, r, hns, hreads, go, single, many with
    | [d], r, hns, hreads, go, single, many => exact single hreads hns
    | [], r, hns, hreads, go, single, many =>
      cases v with
      | tup l =>
        cases hvu with
        | tup _ cs hcs => exact go l cs.toList hreads hns hcs (.inr ⟨many (fun d e => by cases e) l hreads _ hcs, by simp⟩)
      | _ => exact absurd rfl (many (fun d e => by cases e) [_] hreads [u] (.one hvu) u)
    | d :: e :: t, r, hns, hreads, go, single, many =>
      cases v with
      | tup l =>
        cases hvu with
        | tup _ cs hcs => exact go l cs.toList hreads hns hcs (.inr ⟨many (fun d e => by cases e) l hreads _ hcs, by simp⟩)
      | _ => exact absurd rfl (many (fun d e => by cases e) [_] hreads [u] (.one hvu) u)
  · exact (den_fail h2).elim
end Go.Ab
