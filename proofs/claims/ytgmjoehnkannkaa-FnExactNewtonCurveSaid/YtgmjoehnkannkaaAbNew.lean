/-
  Operations that turn no memory that was there. Part 7: literals, new blocks, builtins.
-/
import Derived.Test.YtgmjoehnkannkaaAbAlloc
namespace Go.Ab
open Go.RowKit

theorem splice_length (l : List AV) (i : Nat) (vs : List AV) (h : i + vs.length ≤ l.length) : (splice l i vs).length = l.length := by
  unfold splice; simp only [List.length_append, List.length_take, List.length_drop]; omega

theorem VReps.splice {β : Bt} {l : List AV} {us : List Value} (h : VReps β l us) {vs : List AV} {ws : List Value} (h' : VReps β vs ws) (i : Nat) :
    VReps β (splice l i vs) (us.take i ++ ws ++ us.drop (i + ws.length)) := by
  unfold Go.Ab.splice
  rw [← h'.length]
  exact ((h.take i).append h').append (h.drop _)

/-- how the model lays a part into a row -/
theorem lay_part : ∀ (cs : List Value) (k off : Nat) (cells : Array Value), off + k + cs.length ≤ cells.size →
    ((cs.zipIdx k).foldl (fun a (c, j) => a.setIfInBounds (off + j) c) cells).toList = cells.toList.take (off + k) ++ cs ++ cells.toList.drop (off + k + cs.length)
  | [], k, off, cells, _ => by simp
  | c :: r, k, off, cells, h => by
    rw [List.zipIdx_cons, List.foldl_cons, lay_part r (k + 1) off _ (by simp only [Array.size_setIfInBounds]; simp only [List.length_cons] at h; omega)]
    simp only [Array.toList_setIfInBounds, List.length_cons] at h ⊢
    have hsz : off + k < cells.toList.length := by simp; omega
    have hlen : (cells.toList.take (off + k)).length = off + k := by rw [List.length_take]; omega
    have e1 : off + (k + 1) = (off + k) + 1 := by omega
    have e3 : off + k + (r.length + 1) = (off + k) + 1 + r.length := by omega
    rw [e1, e3, List.set_eq_take_append_cons_drop, if_pos hsz]
    generalize hA : cells.toList.take (off + k) = A at hlen ⊢
    have h1 : (A ++ c :: cells.toList.drop (off + k + 1)).take (off + k + 1) = A ++ [c] := by
      rw [List.take_append, hlen, List.take_of_length_le (by omega), show off + k + 1 - (off + k) = 1 by omega]; rfl
    have h2 : (A ++ c :: cells.toList.drop (off + k + 1)).drop (off + k + 1 + r.length) = cells.toList.drop (off + k + 1 + r.length) := by
      rw [List.drop_append, hlen, List.drop_eq_nil_of_le (by omega), show off + k + 1 + r.length - (off + k) = r.length + 1 by omega, List.drop_succ_cons, List.drop_drop, List.nil_append]
    rw [h1, h2]
    simp

theorem fill_rep {β : Bt} (place : Nat → Option (Nat × Nat)) : ∀ (ps : List (Nat × AV)) (qs : List (Nat × Value)) (l : List AV) (cells : Array Value) (r : List AV),
    ps.length = qs.length → (∀ (j : Nat) (p : Nat × AV) (q : Nat × Value), ps[j]? = some p → qs[j]? = some q → p.1 = q.1 ∧ VRep β p.2 q.2) → VReps β l cells.toList → fillA place l ps = some r →
    ∃ r', Instr.fill place cells qs = some r' ∧ VReps β r r'.toList
  | [], [], l, cells, r, _, _, hl, he => by
    simp only [fillA, Option.some.injEq] at he
    subst he
    exact ⟨cells, rfl, hl⟩
  | [], _ :: _, _, _, _, h, _, _, _ => by simp at h
  | _ :: _, [], _, _, _, h, _, _, _ => by simp at h
  | (i, v) :: ps, (i', u) :: qs, l, cells, r, hlen, hpq, hl, he => by
    obtain ⟨hi, hv⟩ := hpq 0 _ _ rfl rfl
    simp only at hi hv
    subst hi
    have hpq' : ∀ (j : Nat) (p : Nat × AV) (q : Nat × Value), ps[j]? = some p → qs[j]? = some q → p.1 = q.1 ∧ VRep β p.2 q.2 := fun j p q hp hq => hpq (j + 1) p q (by simpa using hp) (by simpa using hq)
    have hlen' : ps.length = qs.length := by simpa using hlen
    have hcl : l.length = cells.size := by simpa using hl.length
    unfold fillA at he
    unfold Instr.fill
    split at he
    · cases he
    · rename_i off size hp
      rw [hp]
      have step : ∀ (vs : List AV), VReps β vs u.cells.toList → vs.length = size → off + size ≤ l.length → fillA place (splice l off vs) ps = some r →
          ∃ r', (if (decide (u.cells.size ≠ size) || decide (off + u.cells.size > cells.size)) = true then none else Instr.fill place (u.cells.zipIdx.foldl (fun cs (c, j) => cs.setIfInBounds (off + j) c) cells) qs) = some r' ∧ VReps β r r'.toList := by
        intro vs hvs hsz hle he
        have h1 : u.cells.size = size := by have := hvs.length; simp at this; omega
        have h2 : ¬ ((decide (u.cells.size ≠ size) || decide (off + u.cells.size > cells.size)) = true) := by simp; omega
        simp only [h2, if_false]
        refine fill_rep place ps qs _ _ r hlen' hpq' ?_ he
        have h3 : (u.cells.zipIdx.foldl (fun cs (c, j) => cs.setIfInBounds (off + j) c) cells) = ((u.cells.toList.zipIdx 0).foldl (fun a (c, j) => a.setIfInBounds (off + j) c) cells) := by
          rw [← Array.foldl_toList, Array.toList_zipIdx]
        rw [h3, lay_part u.cells.toList 0 off cells (by simp; omega), Nat.add_zero]
        exact hl.splice hvs off
      split at he
      · split at he
        · rename_i hc
          cases hv with
          | agg _ cs hcs => exact step _ hcs hc.1 hc.2 he
        · cases he
      · cases he
      · cases he
      · cases he
      · rename_i n1 n2 n3 n4
        split at he
        · rename_i hc
          refine step [v] ?_ (by simp [hc.1]) (by rw [hc.1]; exact hc.2) he
          cases hv with
          | top u => exact absurd rfl n2
          | agg l cs h => exact absurd rfl (n1 _)
          | arv κ l cs h => exact absurd rfl (n4 _ _)
          | tup l cs h => exact absurd rfl (n3 _)
          | bl b => exact VReps.one (.bl b)
          | bs b => exact VReps.one (.bs b)
          | int k n => exact VReps.one (.int k n)
          | flt k x b h => exact VReps.one (.flt k x b h)
          | cpx k x y a b h h' => exact VReps.one (.cpx k x y a b h h')
          | str s => exact VReps.one (.str s)
          | nilp => exact VReps.one .nilp
          | ptr n i c l h h1 h2 => exact VReps.one (.ptr n i c l h h1 h2)
          | slc n o m l a cap h h1 => exact VReps.one (.slc n o m l a cap h h1)
          | nils κ a => exact VReps.one (.nils κ a)
          | fn f a b a' b' h h' => exact VReps.one (.fn f a b a' b' h h')
        · cases he
end Go.Ab
