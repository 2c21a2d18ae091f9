/-
  Reading memory: what the cells of a named block hold.
-/
import Derived.Test.YtgmjoehnkannkaaAbConv
import Derived.Laws.Cells
namespace Go.Ab
open Go.RowKit

def Sub (g h : Heap) : Prop := ∀ n b, hget g n = some b → hget h n = some b
theorem Sub.refl (h : Heap) : Sub h h := fun _ _ e => e

theorem addr_add (blk o j : Nat) : (⟨blk, o, none⟩ : Addr).add j = ⟨blk, o + j, none⟩ := by
  unfold Addr.add
  split
  · rename_i h; subst h; rfl
  · rfl

theorem cell_lt {w : World} {a : Addr} {v : Value} (h : w.cell? a = some v) : a.block < w.heap.size := by
  unfold World.cell? at h
  cases hb : w.heap[a.block]? with
  | none => rw [hb] at h; cases h
  | some o => exact (Array.getElem?_eq_some_iff.1 hb).1

theorem flat_drop (κ : EK) : ∀ (l : List κ.den) (n : Nat), (l.drop n).flatMap κ.cells = (l.flatMap κ.cells).drop (n * κ.size)
  | l, 0 => by simp
  | [], n + 1 => by simp
  | x :: r, n + 1 => by
    rw [List.drop_succ_cons, flat_drop κ r n, List.flatMap_cons, List.drop_append, EK.cells_length]
    have h1 : (n + 1) * κ.size - κ.size = n * κ.size := by rw [Nat.succ_mul]; omega
    have h2 : (κ.cells x).drop ((n + 1) * κ.size) = [] := List.drop_eq_nil_of_le (by rw [EK.cells_length, Nat.succ_mul]; omega)
    rw [h1, h2, List.nil_append]

theorem flat_take (κ : EK) : ∀ (l : List κ.den) (n : Nat), (l.take n).flatMap κ.cells = (l.flatMap κ.cells).take (n * κ.size)
  | l, 0 => by simp
  | [], n + 1 => by simp
  | x :: r, n + 1 => by
    rw [List.take_succ_cons, List.flatMap_cons, flat_take κ r n, List.flatMap_cons, List.take_append, EK.cells_length]
    have h1 : (n + 1) * κ.size - κ.size = n * κ.size := by rw [Nat.succ_mul]; omega
    have h2 : (κ.cells x).take ((n + 1) * κ.size) = κ.cells x := List.take_of_length_le (by rw [EK.cells_length, Nat.succ_mul]; omega)
    rw [h1, h2]

theorem sub_length {α : Type} (l : List α) {off len : Nat} (h : off + len ≤ l.length) : (sub l off len).length = len := by
  unfold sub; rw [List.length_take, List.length_drop]; omega

theorem sub_flat (κ : EK) (l : List κ.den) (off len : Nat) : (sub l off len).flatMap κ.cells = ((l.flatMap κ.cells).drop (off * κ.size)).take (len * κ.size) := by
  unfold sub; rw [flat_take, flat_drop]

section
variable {β : Bt} {h : Heap} {w : World} {base : Nat}

theorem Rep.get (hr : Rep β h w base) {n : Nat} {b : Blk} (hn : hget h n = some b) (hb : b.live) {l : Loc} (hl : β n = some l) : BRep β w base l b := hr.blk n b l hn hb hl

/-- The cell that a pointer leads to. -/
theorem Rep.cell (hr : Rep β h w base) {n : Nat} {b : Blk} (hn : hget h n = some b) (hb : b.live) {l : Loc} (hl : β n = some l) {j : Nat} {v : AV} (hj : b.cl[j]? = some v) :
    ∃ u, w.cell? ⟨l.blk, l.off + j, none⟩ = some u ∧ VRep β v u := (hr.get hn hb hl).cells j v hj

theorem slc_cells (hr : Rep β h w base) {n off len : Nat} {o : Bool} {κ : EK} {l : List κ.den} (hn : hget h n = some (.arr o κ l)) {v : Value} (hv : VRep β (.slc n off len) v) :
    ∃ a cap, v = .slice a len cap ∧ (sub l off len).length = len ∧
      (len = 0 ∨ ∃ blk o, a = some ⟨blk, o, none⟩ ∧ ∀ j x, ((sub l off len).flatMap κ.cells)[j]? = some x → ∃ u, w.cell? ⟨blk, o + j, none⟩ = some u ∧ VRep β x u) := by
  cases hv with
  | slc n off len loc a cap hloc hok =>
    have hb := hr.get hn trivial hloc
    have hlen : loc.len = l.length := hb.len
    have hes : loc.es = κ.size := hb.es
    obtain ⟨h1, h2⟩ := hok
    refine ⟨a, cap, rfl, sub_length l (by omega), ?_⟩
    rcases h2 with h2 | ⟨h2, h3, _⟩
    · exact .inl h2.1
    · refine .inr ⟨loc.blk, loc.off + off * loc.es, h2, fun j x hj => ?_⟩
      rw [sub_flat, List.getElem?_take] at hj
      split at hj
      · rw [List.getElem?_drop] at hj
        obtain ⟨u, hu, hv⟩ := hb.cells (off * κ.size + j) x hj
        refine ⟨u, ?_, hv⟩
        rw [hes, Nat.add_assoc]; exact hu
      · cases hj
end

/-- VReps of a list, cell by cell. -/
theorem VReps.of_cells {β : Bt} (f : Nat → Option Value) : ∀ (l : List AV), (∀ j x, l[j]? = some x → ∃ u, f j = some u ∧ VRep β x u) → ∃ us : List Value, (∀ (j : Nat) u, us[j]? = some u → f j = some u) ∧ us.length = l.length ∧ VReps β l us
  | [], _ => ⟨[], fun j u h => by simp at h, rfl, .nil⟩
  | v :: r, h => by
    obtain ⟨u, hu, hv⟩ := h 0 v rfl
    obtain ⟨us, h1, h2, h3⟩ := VReps.of_cells (fun j => f (j + 1)) r (fun j x hj => h (j + 1) x (by simpa using hj))
    refine ⟨u :: us, fun j x hj => ?_, by simp [h2], .cons _ _ _ _ hv h3⟩
    cases j with
    | zero => simp at hj; subst hj; exact hu
    | succ j => exact h1 j x (by simpa using hj)

/-- A row of cells that lie there is read as they are. -/
theorem load_cells {P : Program} {β : Bt} {w : World} {blk o : Nat} {l : List AV} (hc : ∀ j x, l[j]? = some x → ∃ u, w.cell? ⟨blk, o + j, none⟩ = some u ∧ VRep β x u) :
    ∃ us : List Value, us.length = l.length ∧ VReps β l us ∧ (loadCells ⟨blk, o, none⟩ l.length).run P w = .ok us.toArray w := by
  obtain ⟨us, h1, h2, h3⟩ := VReps.of_cells (fun j => w.cell? ⟨blk, o + j, none⟩) l hc
  refine ⟨us, h2, h3, ?_⟩
  have := run_loadCells_list (P := P) (w := w) ⟨blk, o, none⟩ us (fun j v hj => by rw [addr_add]; exact h1 j v hj)
  rw [h2] at this
  exact this

theorem ints_of_reps {β : Bt} {k : IntKind} : ∀ (l : List Int) (us : List Value), VReps β (l.flatMap (EK.int k).cells) us → us = l.map fun n => Value.int k n
  | [], us, h => by cases h; rfl
  | n :: r, us, h => by
    have h' : VReps β (.int k n :: r.flatMap (EK.int k).cells) us := h
    cases h' with
    | cons _ u _ s h1 h2 =>
      cases h1
      rw [ints_of_reps r s h2]; rfl

end Go.Ab
