/-
  Marks and other small things that the statements' own functions use.
-/
import Derived.Test.YtgmjoehnkannkaaAbTold
import Derived.Test.YtgmjoehnkannkaaAbRound2
namespace Go.Ab
abbrev F32 : DS := .flt .f32
abbrev F64 : DS := .flt .f64
abbrev L32 : DS := .list (.flt .f32)
abbrev I64 : DS := .int .i64
abbrev PD : DS := .agg [L32, L32]
abbrev LS : Type := List (Fl .f32)
abbrev Pr : Type := LS × LS
abbrev dN : Fl .f32 := Fl.nan .f32
theorem sub_all {α : Type} (l : List α) : sub l 0 l.length = l := by simp [sub]
theorem inc64 {i n : Nat} (hi : i < n) (hn : n < 2 ^ 62) : IntKind.i64.wrap ((i : Int) + 1) = ((i + 1 : Nat) : Int) := by rw [wrap64 (by omega) (by omega)]; rfl
theorem ltT {i n : Nat} [inst : Decidable ((i : Int) < (n : Int))] (h : i < n) : @decide ((i : Int) < (n : Int)) inst = true := by simp; omega
theorem ltF (n : Nat) [inst : Decidable ((n : Int) < (n : Int))] : @decide ((n : Int) < (n : Int)) inst = false := by simp
/-- the marks from k on -/
def marks (k : Int) : Nat → LS
  | 0 => []
  | n + 1 => fofInt .f32 k :: marks (k + 1) n
theorem marks_len (k : Int) : ∀ n, (marks k n).length = n
  | 0 => rfl
  | n + 1 => by show (marks (k + 1) n).length + 1 = n + 1; rw [marks_len]
theorem marks_get (k : Int) : ∀ n i, i < n → (marks k n).getD i dN = fofInt .f32 (k + i)
  | 0, i, h => by omega
  | n + 1, 0, h => by show fofInt .f32 k = _; simp
  | n + 1, i + 1, h => by
    show (marks (k + 1) n).getD i dN = _
    rw [marks_get (k + 1) n i (by omega)]
    congr 1; omega
theorem word_no_nan {k : FloatKind} (s : Bool) {r : Nat} (h : r ≤ k.format.infRung) : nanB k (k.format.word s r) = false := by
  obtain ⟨h1, h2, h3⟩ := word_facts s h
  unfold nanB FloatKind.decode Ieee.Format.read
  simp only [h1]
  split
  · rfl
  · split
    · rfl
    · rw [if_pos (by omega)]; rfl
theorem nearest_no_nan (k : FloatKind) (n : Int) : nanB k (k.nearest n) = false := by
  unfold FloatKind.nearest FloatKind.encode
  show nanB k (k.format.nearest _ _ _) = false
  unfold Ieee.Format.nearest
  split
  · exact word_no_nan _ (Nat.zero_le _)
  · exact word_no_nan _ (Nat.min_le_right _ _)
theorem fne_ofInt (n : Int) : fne (fofInt .f32 n) (fofInt .f32 n) = false := by
  rw [fne_self]
  show nanB .f32 (fofInt .f32 n).bits = false
  unfold fofInt
  rw [Fl.of_bits (nearest_wf _ _), nan_canon]
  exact nearest_no_nan .f32 n
theorem marks_succ (k : Int) : ∀ n : Nat, marks k (n + 1) = marks k n ++ [fofInt .f32 (k + n)]
  | 0 => by show [fofInt .f32 k] = [fofInt .f32 (k + 0)]; rw [Int.add_zero]
  | n + 1 => by
    show fofInt .f32 k :: marks (k + 1) (n + 1) = fofInt .f32 k :: marks (k + 1) n ++ [fofInt .f32 (k + (n + 1 : Nat))]
    rw [marks_succ (k + 1) n, List.cons_append]
    congr 4; omega
/-- a list whose first i places are marked -/
def markUp (k : Int) (g : LS) (i : Nat) : LS := marks k i ++ g.drop i
theorem markUp_zero (k : Int) (g : LS) : markUp k g 0 = g := by simp [markUp, marks]
theorem markUp_end (k : Int) (g : LS) : markUp k g g.length = marks k g.length := by simp [markUp]
theorem markUp_len (k : Int) (g : LS) {i : Nat} (h : i ≤ g.length) : (markUp k g i).length = g.length := by simp [markUp, marks_len]; omega
theorem markUp_succ (k : Int) (g : LS) {i : Nat} (h : i < g.length) : (markUp k g i).set i (fofInt .f32 (k + i)) = markUp k g (i + 1) := by
  unfold markUp
  rw [List.set_append_right _ _ (by rw [marks_len]; exact Nat.le_refl _), marks_len, Nat.sub_self, List.drop_eq_getElem_cons h, List.set_cons_zero, marks_succ, List.append_assoc]
  rfl
theorem wrapAdd {k : Int} {i : Nat} (h0 : 0 ≤ k) (h1 : k < 2 ^ 60) (h2 : i < 2 ^ 60) : IntKind.i64.wrap (k + (i : Int) + 1) = k + ((i + 1 : Nat) : Int) := by rw [wrap64 (by omega) (by omega)]; omega

/-- the first n of a row -/
def mapR {α : Type} (f : Nat → α) (n : Nat) : List α := (List.range n).map f
theorem mapR_len {α : Type} (f : Nat → α) (n : Nat) : (mapR f n).length = n := by simp [mapR]
theorem mapR_succ {α : Type} (f : Nat → α) (n : Nat) : mapR f (n + 1) = mapR f n ++ [f n] := by simp [mapR, List.range_succ]
theorem mapR_get {α : Type} (f : Nat → α) (d : α) {n i : Nat} (h : i < n) : (mapR f n).getD i d = f i := by simp [mapR, List.getD_eq_getElem?_getD, h]
theorem maxA_one {i : Nat} [inst : Decidable (i + 1 ≤ maxA)] (h : i < 2 ^ 30) : @decide (i + 1 ≤ maxA) inst = true := by
  have : maxA = 2 ^ 36 := rfl
  simp; omega
def szF (n : Int) (k : Nat) : Int := if n < (k : Int) then -1 else n - k
def szF2 (n : Int) (k l : Nat) : Int := if n < (k : Int) + l then -1 else n - k - l
theorem sub_one {α : Type} (z : α) : sub [z] 0 1 = [z] := rfl
theorem eq_not_self (b : Bool) : (!b == b) = false := by cases b <;> rfl
theorem eq_bne (n : Int) : (n != n) = false := by simp
end Go.Ab
