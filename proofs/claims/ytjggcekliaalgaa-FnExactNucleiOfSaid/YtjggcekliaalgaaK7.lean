/- The program's HeldCurve answers as the reference's does, at all arguments. No condition. -/
import Derived.Test.YtjggcekliaalgaaK6
namespace Go.Proofs.Ytjggcekliaalgaa
open Go.Ab
def heldOk (x : LT) (t : Fl .f32) (l : LS) : Prop := okL x = true ∧ fin t = true ∧ l.length ≤ 128 ∧ ∀ i, i < l.length → least (l.getD i dN) = true ∧ fin (afterF x t (l.getD i dN)) = true
open Classical in
noncomputable def curveF (x : LT) (t : Fl .f32) (l : LS) : LS × Bool := if heldOk x t l then (mapR (fun i => afterF x t (l.getD i dN)) l.length, true) else ([], false)
noncomputable def curveG (x : LT × Fl .f32 × LS) : Option (LS × Bool) := some (curveF x.1 x.2.1 x.2.2)
noncomputable def curveS : FSpec := ⟨[lawD, F32, L32], [L32, .bool], curveG⟩
theorem curve_no {x : LT} {t : Fl .f32} {l : LS} (h : ¬ heldOk x t l) : curveF x t l = ([], false) := if_neg h
theorem curve_yes {x : LT} {t : Fl .f32} {l : LS} (h : heldOk x t l) : curveF x t l = (mapR (fun i => afterF x t (l.getD i dN)) l.length, true) := if_pos h
theorem sub_mapR {α : Type} (f : Nat → α) (n : Nat) : sub (mapR f n) 0 n = mapR f n := by have := sub_all (mapR f n); rw [mapR_len] at this; exact this
theorem share_ok {x : LT} {t m : Fl .f32} (h : (shareF x t m).2 = true) : least m = true ∧ fin (afterF x t m) = true ∧ (shareF x t m).1 = afterF x t m := by
  unfold shareF at h ⊢
  split at h
  · rename_i h1
    rw [if_pos h1]
    split at h
    · rename_i h2
      rw [if_pos h2]; exact ⟨h1.2.2, h2, rfl⟩
    · cases h
  · cases h
theorem share_no {x : LT} {t m : Fl .f32} (h1 : okL x = true) (h2 : fin t = true) (h : (shareF x t m).2 = false) : ¬ (least m = true ∧ fin (afterF x t m) = true) := by
  intro k
  unfold shareF at h
  rw [if_pos ⟨h1, h2, k.1⟩, if_pos k.2] at h
  cases h
theorem mapR_congr {α : Type} {f g : Nat → α} {n : Nat} (h : ∀ i, i < n → f i = g i) : mapR f n = mapR g n := by
  unfold mapR
  exact List.map_congr_left fun i hi => h i (List.mem_range.1 hi)
theorem curve_len (x : LT) (t : Fl .f32) (l : LS) : (curveF x t l).1.length ≤ 128 := by
  by_cases h : heldOk x t l
  · rw [curve_yes h, mapR_len]; exact h.2.2.1
  · rw [curve_no h]; exact Nat.zero_le _
theorem held_marks {n : Nat} (hn : n < 2 ^ 40) : heldG (marks 1 n, 1) = some (1 + (n : Int)) := by
  have : heldG (marks 1 n, 1) = some (1 + ((marks 1 n).length : Int)) := if_pos ⟨by show _ = marks 1 (marks 1 n).length; rw [marks_len], by show (marks 1 n).length < 2 ^ 40; rw [marks_len]; omega, show (0 : Int) ≤ 1 by decide, show (1 : Int) < 2 ^ 60 by decide⟩
  rw [this, marks_len]
theorem sub_marks (k : Int) (n : Nat) : sub (marks k n) 0 n = marks k n := by have := sub_all (marks k n); rw [marks_len] at this; exact this
def yesCG (x : LT × Fl .f32 × LS) : Option Bool := some true
def yesCS : FSpec := ⟨[lawD, F32, L32], [.bool], yesCG⟩
end Go.Proofs.Ytjggcekliaalgaa
