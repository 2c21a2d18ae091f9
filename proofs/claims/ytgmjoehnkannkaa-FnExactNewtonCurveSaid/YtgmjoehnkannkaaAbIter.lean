/-
  Loops with a bound that is never reached; loops that count.
-/
import Derived.Test.YtgmjoehnkannkaaAbSame2
namespace Go.Ab

/-- more rounds than any loop here has -/
def bigN : Nat := 2 ^ 70

theorem iter_more {α ρ : Type} (B : α → Option (α ⊕ ρ)) : ∀ (n : Nat) (x : α) (r : ρ) (m : Nat), iter B n x = some r → n ≤ m → iter B m x = some r
  | 0, _, _, _, h, _ => by cases h
  | n + 1, x, r, 0, _, hm => by omega
  | n + 1, x, r, m + 1, h, hm => by
    rw [iter] at h ⊢
    cases hb : B x with
    | none => rw [hb] at h; cases h
    | some z =>
      rw [hb] at h
      cases z with
      | inl y => exact iter_more B n y r m h (by omega)
      | inr q => exact h

theorem iter_big {α ρ : Type} {B : α → Option (α ⊕ ρ)} {n : Nat} {x : α} {r : ρ} (h : iter B n x = some r) (hn : n ≤ 2 ^ 70) : iter B bigN x = some r := iter_more B n x r _ h hn

/-- A loop that counts from i to n, and may stop on the way. -/
theorem iter_find' {α ρ : Type} {B : α → Option (α ⊕ ρ)} (S : Nat → α) (i n : Nat) (stop : Nat → Option ρ) (last : ρ) (hin : i ≤ n) (hn : n < 2 ^ 62) (h1 : ∀ j, i ≤ j → j < n → B (S j) = some (match stop j with | some r => .inr r | none => .inl (S (j + 1)))) (h2 : B (S n) = some (.inr last)) :
    iter B bigN (S i) = some ((firstOf stop (n - i) i).getD last) := by
  refine iter_big (n := (n - i) + 1) ?_ (by omega)
  have key : ∀ m j, i ≤ j → j + m = n → iter B (m + 1) (S j) = some ((firstOf stop m j).getD last) := by
    intro m
    induction m with
    | zero => intro j hj h; have : j = n := by omega
              subst this; rw [iter, h2]; rfl
    | succ m ih =>
      intro j hj h
      rw [iter, h1 j hj (by omega)]
      simp only [Option.bind_some]
      unfold firstOf
      cases hs : stop j with
      | some r => rfl
      | none => exact ih (j + 1) (by omega) (by omega)
  exact key (n - i) i (Nat.le_refl _) (by omega)

/-- A loop that counts from i to n. -/
theorem iter_for {α ρ : Type} {B : α → Option (α ⊕ ρ)} (S : Nat → α) (i n : Nat) (last : ρ) (hin : i ≤ n) (hn : n < 2 ^ 62) (h1 : ∀ j, i ≤ j → j < n → B (S j) = some (.inl (S (j + 1)))) (h2 : B (S n) = some (.inr last)) : iter B bigN (S i) = some last := by
  refine iter_big (n := (n - i) + 1) ?_ (by omega)
  have key : ∀ m j, i ≤ j → j + m = n → iter B (m + 1) (S j) = some last := by
    intro m
    induction m with
    | zero => intro j hj h; have : j = n := by omega
              subst this; rw [iter, h2]; rfl
    | succ m ih =>
      intro j hj h
      rw [iter, h1 j hj (by omega)]
      exact ih (j + 1) (by omega) (by omega)
  exact key (n - i) i (Nat.le_refl _) (by omega)
end Go.Ab
