/-
  Regions whose order is open.
-/
import Derived.Test.YtgmjoehnkannkaaAbReg
namespace Go.Ab
open Go.RowKit

theorem evOpA_congr (Γ : Ctx) {tm tm' : List AV} (h : Heap) (nm : Nat) (o : Oper) (hx : ∀ x ∈ o.op.operands, opv tm x = opv tm' x) : evOpA Γ tm h nm o = evOpA Γ tm' h nm o := by
  obtain ⟨dst, op, type, pos, after, guard⟩ := o
  have pairs : ∀ ps : Array (Nat × Operand), (∀ x ∈ ps.map (·.2), opv tm x = opv tm' x) →
      (ps.toList.map fun p => (p.1, opv tm p.2)) = (ps.toList.map fun p => (p.1, opv tm' p.2)) := fun ps hp =>
    List.map_congr_left fun p hm => by
      rw [hp p.2 (Array.mem_map.2 ⟨p, by simpa using hm, rfl⟩)]
  have lst : ∀ l : Array Operand, (∀ x ∈ l, opv tm x = opv tm' x) → l.toList.map (opv tm) = l.toList.map (opv tm') := fun l hl =>
    List.map_congr_left fun x hm => hl x (by simpa using hm)
  have op1 : ∀ x : Option Operand, (∀ y, x = some y → opv tm y = opv tm' y) → x.map (opv tm) = x.map (opv tm') := by
    intro x hx
    cases x with
    | none => rfl
    | some y => simp [hx y rfl]
  cases op <;> simp only [Op.operands] at hx <;> simp only [evOpA]
  case build t ps => rw [pairs ps fun x hm => hx x (by simpa using hm)]
  case buildSlice t n ps => rw [pairs ps fun x hm => hx x (by simpa using hm)]
  case makeFunc fn first captured => rw [lst first fun x hm => hx x (by simp [hm]), lst captured fun x hm => hx x (by simp [hm])]
  case call c =>
    have hargs : c.args.toList.map (opv tm) = c.args.toList.map (opv tm') := lst c.args fun x hm => hx x (by simp [Call.operands, hm])
    cases hc : c.callee with
    | value f => simp only [hargs]; rw [hx f (by simp [Call.operands, hc])]
    | invoke r m => rfl
    | builtin b => simp only [hargs]
  case slice t x lo hi mx => cases lo <;> cases hi <;> cases mx <;> simp_all
  all_goals (first | rfl | (simp_all; done))

/-! ### What comes ahead of what -/
def backFrom : Nat → List Oper → Bool
  | _, [] => true
  | j, o :: r => o.after.toList.all (fun e => !Region.binds .any e || Nat.blt e.on j) && backFrom (j + 1) r

def bitsOf (acc : List Nat) (o : Oper) : Nat := o.after.toList.foldl (fun s e => bif Region.binds .any e then s ||| 2 ^ e.on ||| acc.getD e.on 0 else s) 0

theorem bits_fold (acc : List Nat) (i : Nat) : ∀ (es : List Edge) (s : Nat), (es.foldl (fun s e => bif Region.binds .any e then s ||| 2 ^ e.on ||| acc.getD e.on 0 else s) s).testBit i = true →
    s.testBit i = true ∨ ∃ e ∈ es, Region.binds .any e = true ∧ (e.on = i ∨ (acc.getD e.on 0).testBit i = true)
  | [], s, h => .inl h
  | e :: es, s, h => by
    rw [List.foldl_cons] at h
    rcases bits_fold acc i es _ h with h1 | ⟨e', h1, h2⟩
    · cases hb : Region.binds .any e with
      | false => rw [hb] at h1; exact .inl h1
      | true =>
        rw [hb] at h1
        simp only [cond_true, Nat.testBit_or, Bool.or_eq_true] at h1
        rcases h1 with (h1 | h1) | h1
        · exact .inl h1
        · refine .inr ⟨e, List.mem_cons_self, hb, .inl ?_⟩
          rw [Nat.testBit_two_pow] at h1
          simpa using h1
        · exact .inr ⟨e, List.mem_cons_self, hb, .inr h1⟩
    · exact .inr ⟨e', List.mem_cons_of_mem _ h1, h2⟩

theorem befores_go : ∀ (ops : List Oper) (acc : List Nat), ∃ more, ops.foldl (init := acc) (fun acc o => acc ++ [bitsOf acc o]) = acc ++ more ∧ more.length = ops.length ∧
    ∀ j o, ops[j]? = some o → (acc ++ more).getD (acc.length + j) 0 = bitsOf ((acc ++ more).take (acc.length + j)) o
  | [], acc => ⟨[], by simp, rfl, fun j o h => by simp at h⟩
  | o :: r, acc => by
    obtain ⟨more, h1, h2, h3⟩ := befores_go r (acc ++ [bitsOf acc o])
    refine ⟨bitsOf acc o :: more, by rw [List.foldl_cons, h1]; simp, by simp [h2], fun j o' hj => ?_⟩
    have e : acc ++ bitsOf acc o :: more = (acc ++ [bitsOf acc o]) ++ more := by simp
    cases j with
    | zero =>
      simp at hj; subst hj
      simp [List.getD_eq_getElem?_getD]
    | succ j =>
      rw [e]
      have := h3 j o' (by simpa using hj)
      rw [show (acc ++ [bitsOf acc o]).length + j = acc.length + (j + 1) by simp; omega] at this
      exact this

theorem befores_spec {ops : List Oper} {j : Nat} {o : Oper} (hj : ops[j]? = some o) : (befores ops).getD j 0 = bitsOf ((befores ops).take j) o := by
  obtain ⟨more, h1, _, h3⟩ := befores_go ops []
  have h1' : befores ops = more := by
    have : befores ops = ops.foldl (init := []) (fun acc o => acc ++ [bitsOf acc o]) := rfl
    rw [this, h1]; rfl
  have := h3 j o hj
  rw [h1']
  simpa using this

/-- who comes ahead of j, by one edge or more -/
theorem befores_bit {ops : List Oper} {i j : Nat} {o : Oper} (hj : ops[j]? = some o) (h : ((befores ops).getD j 0).testBit i = true) :
    ∃ e ∈ o.after.toList, Region.binds .any e = true ∧ (e.on = i ∨ (e.on < j ∧ ((befores ops).getD e.on 0).testBit i = true)) := by
  rw [befores_spec hj] at h
  rcases bits_fold _ i _ _ h with h1 | ⟨e, h1, h2, h3⟩
  · simp at h1
  · refine ⟨e, h1, h2, ?_⟩
    rcases h3 with h3 | h3
    · exact .inl h3
    · by_cases hlt : e.on < j
      · refine .inr ⟨hlt, ?_⟩
        rw [List.getD_eq_getElem?_getD, List.getElem?_take, if_pos hlt] at h3
        rw [List.getD_eq_getElem?_getD]; exact h3
      · rw [List.getD_eq_getElem?_getD, List.getElem?_take, if_neg hlt] at h3
        simp at h3

theorem backFrom_get : ∀ {ops : List Oper} {k j : Nat} {o : Oper}, backFrom k ops = true → ops[j]? = some o → ∀ e ∈ o.after.toList, Region.binds .any e = true → e.on < k + j
  | [], _, _, _, _, h => by simp at h
  | o :: r, k, j, o', hb, h => by
    unfold backFrom at hb
    simp only [Bool.and_eq_true] at hb
    intro e he hbd
    cases j with
    | zero =>
      simp at h; subst h
      have := List.all_eq_true.1 hb.1 e he
      rw [hbd] at this
      simpa [Nat.blt_eq] using this
    | succ j =>
      have := backFrom_get hb.2 (by simpa using h) e he hbd
      omega

section
variable {all : List Oper}

/-- what is listed holds all that comes ahead of it -/
def Closed (all : List Oper) (L : Nat → Prop) : Prop := ∀ j o, L j → all[j]? = some o → ∀ e ∈ o.after.toList, Region.binds .any e = true → L e.on

theorem ahead_in {L : Nat → Prop} (hL : Closed all L) : ∀ (j : Nat) (o : Oper), all[j]? = some o → (∀ e ∈ o.after.toList, Region.binds .any e = true → L e.on) → ∀ i, ((befores all).getD j 0).testBit i = true → L i := by
  intro j
  induction j using Nat.strongRecOn with
  | ind j ih =>
    intro o hj hin i hi
    obtain ⟨e, h1, h2, h3⟩ := befores_bit hj hi
    rcases h3 with rfl | ⟨hlt, h3⟩
    · exact hin e h1 h2
    · have hLe := hin e h1 h2
      cases ho : all[e.on]? with
      | none =>
        exfalso
        have : all.length ≤ e.on := List.getElem?_eq_none_iff.1 ho
        have := (List.getElem?_eq_some_iff.1 hj).1
        omega
      | some o' => exact ih e.on hlt o' ho (fun e' h4 h5 => hL e.on o' hLe ho e' h4 h5) i h3

theorem bit_lt (hback : backFrom 0 all = true) : ∀ (j : Nat) (o : Oper), all[j]? = some o → ∀ i, ((befores all).getD j 0).testBit i = true → i < j := by
  intro j
  induction j using Nat.strongRecOn with
  | ind j ih =>
    intro o hj i hi
    obtain ⟨e, h1, h2, h3⟩ := befores_bit hj hi
    have hlt := backFrom_get hback hj e h1 h2
    rw [Nat.zero_add] at hlt
    rcases h3 with rfl | ⟨_, h3⟩
    · exact hlt
    · cases ho : all[e.on]? with
      | none =>
        exfalso
        have : all.length ≤ e.on := List.getElem?_eq_none_iff.1 ho
        have := (List.getElem?_eq_some_iff.1 hj).1
        omega
      | some o' => have := ih e.on hlt o' ho i h3; omega

theorem tailFrom_spec (bs : List Nat) : ∀ n, tailFrom bs n ≤ n ∧ ∀ j, tailFrom bs n ≤ j → j < n → ∀ i, i < j → (bs.getD j 0).testBit i = true
  | 0 => ⟨Nat.le_refl _, fun j _ h => absurd h (by omega)⟩
  | n + 1 => by
    unfold tailFrom
    cases hb : Nat.beq (bs.getD n 0) (2 ^ n - 1) with
    | false => exact ⟨Nat.le_refl _, fun j h1 h2 => by simp only [cond_false] at h1; omega⟩
    | true =>
      obtain ⟨h1, h2⟩ := tailFrom_spec bs n
      simp only [cond_true]
      refine ⟨by omega, fun j h3 h4 i hi => ?_⟩
      by_cases e : j = n
      · subst e
        rw [Nat.eq_of_beq_eq_true hb, Nat.testBit_two_pow_sub_one]
        simpa using hi
      · exact h2 j h3 (by omega) i hi
end
end Go.Ab
