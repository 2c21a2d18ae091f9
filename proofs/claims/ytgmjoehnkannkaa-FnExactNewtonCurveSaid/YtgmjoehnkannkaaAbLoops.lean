/-
  Loops that programs have often, in plain words.
-/
import Derived.Test.YtgmjoehnkannkaaAbSpec
namespace Go.Ab

theorem wrap64 {n : Int} (h0 : -9223372036854775808 ≤ n) (h1 : n < 9223372036854775808) : IntKind.i64.wrap n = n := by
  simp only [IntKind.wrap, IntKind.bits, IntKind.signed]
  simp
  omega

theorem inB_of {i : Nat} {n : Nat} (h : i < n) : inB (i : Int) n = true := by
  unfold inB
  simp
  omega

/-- 'for i := 0; i < len(a); i++ { out[i] = a[i] }' -/
def copyB {α : Type} (d : α) (y : (Nat × (Nat × (Int × Unit))) × (List α × (List α × Unit))) : Option (((Nat × (Nat × (Int × Unit))) × (List α × (List α × Unit))) ⊕ ((Nat × Unit) × (List α × (List α × Unit)))) :=
  bif decide (y.1.2.2.1 < (y.1.1 : Int)) then (bif inB y.1.2.2.1 y.1.1 then (bif inB y.1.2.2.1 y.1.2.1 then (some (.inl ((y.1.1, (y.1.2.1, (IntKind.i64.wrap (y.1.2.2.1 + 1), ()))), (y.2.1, (List.set y.2.2.1 (0 + Int.toNat y.1.2.2.1) (List.getD y.2.1 (0 + Int.toNat y.1.2.2.1) d), ()))))) else none) else none)
  else some (.inr ((y.1.2.1, ()), (y.2.1, (y.2.2.1, ()))))

theorem copy_loop {α : Type} (d : α) (l : List α) (hl : l.length < 2 ^ 62) : ∀ (m i : Nat) (out : List α), i + m = l.length → out.length = l.length → out.take i = l.take i →
    iter (copyB d) (m + 1) ((l.length, (l.length, ((i : Int), ()))), (l, (out, ()))) = some ((l.length, ()), (l, (l, ())))
  | 0, i, out, h, ho, ht => by
    have hi : i = l.length := by omega
    subst hi
    have : out = l := by rw [← List.take_length (l := out), ho, ht, List.take_length]
    subst this
    simp [iter, copyB]
  | m + 1, i, out, h, ho, ht => by
    have hi : i < l.length := by omega
    have h1 : decide ((i : Int) < (l.length : Int)) = true := by simp; omega
    have h2 := inB_of hi
    have h3 : IntKind.i64.wrap ((i : Int) + 1) = ((i + 1 : Nat) : Int) := by rw [wrap64 (by omega) (by omega)]; rfl
    rw [iter]
    have hb : copyB d ((l.length, (l.length, ((i : Int), ()))), (l, (out, ()))) = some (.inl ((l.length, (l.length, (((i + 1 : Nat) : Int), ()))), (l, (out.set i (l.getD i d), ())))) := by
      unfold copyB
      simp only [h1, h2, h3, cond_true, Int.toNat_natCast, Nat.zero_add]
    rw [hb]
    simp only [Option.bind_some]
    refine copy_loop d l hl m (i + 1) _ (by omega) (by simp [ho]) ?_
    have hg : l.getD i d = l[i] := by simp [List.getD_eq_getElem?_getD, hi]
    rw [hg, List.take_succ_eq_append_getElem hi, List.take_succ_eq_append_getElem (by simp; omega), List.getElem_set_self, List.take_set_of_le (by omega), ht]

/-- the first answer among 'stop i', .., 'stop (i + m - 1)' -/
def firstOf {ρ : Type} (stop : Nat → Option ρ) : Nat → Nat → Option ρ
  | 0, _ => none
  | m + 1, i => match stop i with
    | some r => some r
    | none => firstOf stop m (i + 1)

/-- A loop that counts up, and may stop on the way. -/
theorem iter_find {α ρ : Type} (B : α → Option (α ⊕ ρ)) (S : Nat → α) (n : Nat) (stop : Nat → Option ρ) (last : ρ) (h1 : ∀ i, i < n → B (S i) = some (match stop i with | some r => .inr r | none => .inl (S (i + 1)))) (h2 : B (S n) = some (.inr last)) :
    ∀ m i, i + m = n → iter B (m + 1) (S i) = some ((firstOf stop m i).getD last)
  | 0, i, h => by
    have : i = n := by omega
    subst this
    rw [iter, h2]; rfl
  | m + 1, i, h => by
    rw [iter, h1 i (by omega)]
    simp only [Option.bind_some]
    unfold firstOf
    cases hs : stop i with
    | some r => rfl
    | none => exact iter_find B S n stop last h1 h2 m (i + 1) (by omega)

theorem firstOf_none {ρ : Type} (stop : Nat → Option ρ) : ∀ m i, firstOf stop m i = none ↔ ∀ j, i ≤ j → j < i + m → stop j = none
  | 0, i => by simp [firstOf]; intro j h1 h2; omega
  | m + 1, i => by
    unfold firstOf
    cases hs : stop i with
    | some r =>
      simp only [reduceCtorEq, false_iff]
      intro h
      rw [h i (Nat.le_refl _) (by omega)] at hs; cases hs
    | none =>
      simp only
      rw [firstOf_none stop m (i + 1)]
      constructor
      · intro h j h1 h2
        by_cases e : j = i
        · rw [e]; exact hs
        · exact h j (by omega) (by omega)
      · intro h j h1 h2
        exact h j (by omega) (by omega)

theorem firstOf_some {ρ : Type} (stop : Nat → Option ρ) : ∀ m i r, firstOf stop m i = some r → ∃ j, i ≤ j ∧ j < i + m ∧ stop j = some r
  | 0, i, r, h => by cases h
  | m + 1, i, r, h => by
    unfold firstOf at h
    cases hs : stop i with
    | some r' => rw [hs] at h; cases h; exact ⟨i, Nat.le_refl _, by omega, hs⟩
    | none =>
      rw [hs] at h
      obtain ⟨j, h1, h2, h3⟩ := firstOf_some stop m (i + 1) r h
      exact ⟨j, by omega, by omega, h3⟩

/-- two lists of one length are alike where no place differs -/
theorem lists_same {α ρ : Type} [DecidableEq α] (d : α) (l m : List α) (h : l.length = m.length) (r : ρ) : firstOf (fun i => if l.getD i d = m.getD i d then none else some r) l.length 0 = if l = m then none else some r := by
  by_cases e : l = m
  · subst e
    rw [if_pos rfl, firstOf_none]
    intro j _ _
    rw [if_pos rfl]
  · rw [if_neg e]
    cases hf : firstOf (fun i => if l.getD i d = m.getD i d then none else some r) l.length 0 with
    | none =>
      exfalso
      apply e
      rw [firstOf_none] at hf
      apply List.ext_getElem h
      intro i h1 h2
      have := hf i (by omega) (by omega)
      by_cases h3 : l.getD i d = m.getD i d
      · simpa [List.getD_eq_getElem?_getD, h1, h2] using h3
      · rw [if_neg h3] at this; cases this
    | some q =>
      obtain ⟨j, _, _, hj⟩ := firstOf_some _ _ _ _ hf
      split at hj
      · cases hj
      · exact hj.symm
end Go.Ab
