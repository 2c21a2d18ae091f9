/- The program's SameProgram answers as the reference's does, at all arguments. No condition. -/
import Derived.Test.YthikgdgnfhafaaaR1D
namespace Go.Proofs.Ythikgdgnfhafaaa
open Go.Ab
def L25 : LSpec := ⟨[0, 1, 5], ⟨(.cons (.slc 2) (.cons (.slc 3) (.cons .top (.cons .top (.cons .top (.cons (.int .i64) (.cons .top (.cons .top (.cons .top (.cons .top (.cons .top (.cons .top (.cons .top (.cons .top (.cons .top (.cons .top (.cons .top (.cons .top (.cons .top (.cons .top (.cons .top (.cons .top (.cons .top (.cons .top (.cons .top (.cons .top (.cons .top (.cons .top (.cons .top .nil))))))))))))))))))))))))))))), [(2, .arr false (.flt .f32)), (3, .arr false (.flt .f32))]⟩, [⟨.ext 0, [], ⟨(.cons .top (.cons .top (.cons .top (.cons .top (.cons .top (.cons .top (.cons .top (.cons .top (.cons .top (.cons .top (.cons .top (.cons .top (.cons .top (.cons .top (.cons .top (.cons .top (.cons .top (.cons .top (.cons .top (.cons .top (.cons .top (.cons .top (.cons .top (.cons .top (.cons .top (.cons .top (.cons .top (.cons .top (.cons .top .nil))))))))))))))))))))))))))))), [(2, .arr false (.flt .f32)), (3, .arr false (.flt .f32))]⟩⟩, ⟨.ret, [4], ⟨(.cons .top (.cons .top (.cons .top (.cons .top (.cons .bool (.cons .top (.cons .top (.cons .top (.cons .top (.cons .top (.cons .top (.cons .top (.cons .top (.cons .top (.cons .top (.cons .top (.cons .top (.cons .top (.cons .top (.cons .top (.cons .top (.cons .top (.cons .top (.cons .top (.cons .top (.cons .top (.cons .top (.cons .top (.cons .top .nil))))))))))))))))))))))))))))), [(2, .arr false (.flt .f32)), (3, .arr false (.flt .f32))]⟩⟩], fun x => x.1.1 + 1⟩
def loops2 (f _ _ : Nat) : Option LSpec := bif Nat.beq f 25 then some L25 else none
def ss2 : List (Nat × FSpec) := [(15, selfS), (43, eqS), (45, eqS), (44, copyS)]
theorem ss2Ok : SpecsOk Try.prog ss2 := ⟨s15, s43, s45, s44, trivial⟩
noncomputable def Γ2 : Ctx := ctxOf Try.prog tys fs ss2 loops2
abbrev PD : DS := .agg [L32, L32]
def B25 (y : St43) : Option (St43 ⊕ Out43) :=
  bif decide (y.1.2.2.1 < (y.1.1 : Int)) then (bif inB y.1.2.2.1 y.1.1 then (bif inB y.1.2.2.1 y.1.2.1 then (Option.bind (selfS.F (fwide (List.getD y.2.1 (0 + Int.toNat y.1.2.2.1) dN), fwide (List.getD y.2.2.1 (0 + Int.toNat y.1.2.2.1) dN))) fun (r1 : Bool) => (bif !r1 then (some (.inr (.inr ((false, ()), (y.2.1, (y.2.2.1, ())))))) else (some (.inl ((y.1.1, (y.1.2.1, (IntKind.i64.wrap (y.1.2.2.1 + 1), ()))), (y.2.1, (y.2.2.1, ()))))))) else none) else none) else (some (.inr (.inl ((), (y.2.1, (y.2.2.1, ()))))))
theorem e25' (l m : List (Fl .f32)) : (fnT Γ2 10 25 [L32, L32] [.bool] (l, m)).den = (bif (l.length : Int) != (m.length : Int) then (some false) else (Option.bind (iter B25 (l.length + 1) ((l.length, (m.length, (0, ()))), (l, (m, ())))) fun r0 => (match r0 with | .inl _ => (some true) | .inr x2 => (some (x2.1.1))))) := by kernel_rfl
theorem e25 (l : List (Fl .f32)) (hb : l.length < 2 ^ 62) : (fnT Γ2 10 25 [L32, L32] [.bool] (l, l)).den = some true := by
  rw [e25']
  have h0 : ((l.length : Int) != (l.length : Int)) = false := by simp
  rw [h0, cond_false]
  have key := iter_find B25 (fun i => ((l.length, (l.length, ((i : Int), ()))), (l, (l, ())))) l.length (fun _ => none) (.inl ((), (l, (l, ())))) (fun i hi => by
    have h1 : decide ((i : Int) < (l.length : Int)) = true := by simp; omega
    have h2 := inB_of hi
    have h4 : IntKind.i64.wrap ((i : Int) + 1) = ((i + 1 : Nat) : Int) := by rw [wrap64 (by omega) (by omega)]; rfl
    have h5 : selfS.F (fwide (l.getD i dN), fwide (l.getD i dN)) = some true := if_pos rfl
    unfold B25
    simp only [h1, h2, h4, cond_true, Int.toNat_natCast, Nat.zero_add]
    rw [h5]; rfl) (by
    have h1 : decide ((l.length : Int) < (l.length : Int)) = false := by simp
    unfold B25
    simp only [h1, cond_false]) l.length 0 (Nat.zero_add _)
  have hn : firstOf (fun _ => (none : Option Out43)) l.length 0 = none := (firstOf_none _ _ _).2 fun _ _ _ => rfl
  rw [hn] at key
  exact congrArg (fun z => Option.bind z _) key
def selfLS : FSpec := ⟨[L32, L32], [.bool], fun x => if x.1 = x.2 ∧ x.1.length < 2 ^ 62 then some true else none⟩
theorem s25 : SpecOk' Try.prog 25 selfLS := walked (fs := fs) (ss := ss2) (loop := loops2) tysOk mixed fnsOk ss2Ok 10 25 [L32, L32] [.bool] rfl _ fun (x, y) r h => by
  have h' : (if x = y ∧ x.length < 2 ^ 62 then some true else none) = some r := h
  split at h'
  · rename_i hb; obtain ⟨rfl, hb⟩ := hb; exact (e25 x hb).trans h'
  · cases h'

def szF (n : Int) (k : Nat) : Int := if n < (k : Int) then -1 else n - k
theorem e42' (l : List (Fl .f32)) (n : Int) : (fnT Γ2 10 42 [L32, .int .i64] [.int .i64] (l, n)).den = (bif decide (IntKind.i64.wrap (n - (l.length : Int)) < 0) then (some (-1)) else (some (IntKind.i64.wrap (n - (l.length : Int))))) := by kernel_rfl
theorem e42 (l : List (Fl .f32)) (n : Int) (h0 : 0 ≤ n) (h1 : n ≤ 2 ^ 20) (h2 : l.length ≤ maxLen) : (fnT Γ2 10 42 [L32, .int .i64] [.int .i64] (l, n)).den = some (szF n l.length) := by
  have hm : maxLen = 9223372036854775807 := rfl
  rw [e42', wrap64 (by omega) (by omega)]
  unfold szF
  by_cases h : n < (l.length : Int)
  · rw [if_pos h, decide_eq_true (show n - (l.length : Int) < 0 by omega)]; rfl
  · rw [if_neg h, decide_eq_false (show ¬ n - (l.length : Int) < 0 by omega)]; rfl
def szS : FSpec := ⟨[L32, .int .i64], [.int .i64], fun x => if 0 ≤ x.2 ∧ x.2 ≤ 2 ^ 20 ∧ x.1.length ≤ maxLen then some (szF x.2 x.1.length) else none⟩
theorem s42 : SpecOk' Try.prog 42 szS := walked (fs := fs) (ss := ss2) (loop := loops2) tysOk mixed fnsOk ss2Ok 10 42 [L32, .int .i64] [.int .i64] rfl _ fun (x, y) r h => by
  have h' : (if 0 ≤ y ∧ y ≤ 2 ^ 20 ∧ x.length ≤ maxLen then some (szF y x.length) else none) = some r := h
  split at h'
  · rename_i hb; exact (e42 x y hb.1 hb.2.1 hb.2.2).trans h'
  · cases h'

def szG (l : List (Fl .f32)) (n : Int) : Option Int := if 0 ≤ n ∧ n ≤ 2 ^ 20 ∧ l.length ≤ maxLen then some (szF n l.length) else none
def copyG (l : List (Fl .f32)) : Option (List (Fl .f32)) := if l.length ≤ 2 ^ 40 then some l else none
def selfLG (l m : List (Fl .f32)) : Option Bool := if l = m ∧ l.length < 2 ^ 62 then some true else none
def ss3 : List (Nat × FSpec) := [(25, selfLS), (43, eqS), (45, eqS), (44, copyS), (42, szS)]
theorem ss3Ok : SpecsOk Try.prog ss3 := ⟨s25, s43, s45, s44, s42, trivial⟩
noncomputable def Γ4 : Ctx := ctxOf Try.prog tys fs ss3 noLoop
def eq2S : FSpec := ⟨[PD, PD], [.bool], fun x => if x.1.1.length < 2 ^ 62 ∧ x.1.2.length < 2 ^ 62 then some (decide (x.1.1 = x.2.1) && decide (x.1.2 = x.2.2)) else none⟩
theorem sub_all {α : Type} (l : List α) : sub l 0 l.length = l := by simp [sub]
theorem e19' (a b c d : List (Fl .f32)) : (fnT Γ4 10 19 [PD, PD] [.bool] ((a, b), (c, d))).den = Option.bind (eqS.F (sub a 0 a.length, sub c 0 c.length)) fun (r0 : Bool) => (bif r0 then (Option.bind (eqS.F (sub b 0 b.length, sub d 0 d.length)) fun (r1 : Bool) => (some (r1))) else (some false)) := by kernel_rfl
theorem e21' (a b c d : List (Fl .f32)) : (fnT Γ4 10 21 [PD, PD] [.bool] ((a, b), (c, d))).den = Option.bind (eqS.F (sub a 0 a.length, sub c 0 c.length)) fun (r0 : Bool) => (bif r0 then (Option.bind (eqS.F (sub b 0 b.length, sub d 0 d.length)) fun (r1 : Bool) => (some (r1))) else (some false)) := by kernel_rfl
theorem eq2 (a b c d : List (Fl .f32)) (h1 : a.length < 2 ^ 62) (h2 : b.length < 2 ^ 62) : (Option.bind (eqS.F (sub a 0 a.length, sub c 0 c.length)) fun (r0 : Bool) => (bif r0 then (Option.bind (eqS.F (sub b 0 b.length, sub d 0 d.length)) fun (r1 : Bool) => (some (r1))) else (some false))) = some (decide (a = c) && decide (b = d)) := by
  rw [sub_all, sub_all, sub_all, sub_all]
  have k1 : eqS.F (a, c) = some (decide (a = c)) := if_pos h1
  have k2 : eqS.F (b, d) = some (decide (b = d)) := if_pos h2
  rw [k1, k2]
  cases decide (a = c) <;> rfl
theorem s19 : SpecOk' Try.prog 19 eq2S := walked (fs := fs) (ss := ss3) (loop := noLoop) tysOk mixed fnsOk ss3Ok 10 19 [PD, PD] [.bool] rfl _ fun ((a, b), (c, d)) r h => by
  have h' : (if a.length < 2 ^ 62 ∧ b.length < 2 ^ 62 then some (decide (a = c) && decide (b = d)) else none) = some r := h
  split at h'
  · rename_i hb; exact ((e19' a b c d).trans (eq2 a b c d hb.1 hb.2)).trans h'
  · cases h'
theorem s21 : SpecOk' Try.prog 21 eq2S := walked (fs := fs) (ss := ss3) (loop := noLoop) tysOk mixed fnsOk ss3Ok 10 21 [PD, PD] [.bool] rfl _ fun ((a, b), (c, d)) r h => by
  have h' : (if a.length < 2 ^ 62 ∧ b.length < 2 ^ 62 then some (decide (a = c) && decide (b = d)) else none) = some r := h
  split at h'
  · rename_i hb; exact ((e21' a b c d).trans (eq2 a b c d hb.1 hb.2)).trans h'
  · cases h'
theorem e20' (a b : List (Fl .f32)) : (fnT Γ4 10 20 [PD] [PD] (a, b)).den = Option.bind (copyG (sub a 0 a.length)) fun (r0 : List (Fl .f32)) => (Option.bind (copyG (sub b 0 b.length)) fun (r1 : List (Fl .f32)) => (some ((sub r0 0 (List.length r0), sub r1 0 (List.length r1))))) := by kernel_rfl
def copy2S : FSpec := ⟨[PD], [PD], fun x => if x.1.length ≤ 2 ^ 40 ∧ x.2.length ≤ 2 ^ 40 then some x else none⟩
theorem s20 : SpecOk' Try.prog 20 copy2S := walked (fs := fs) (ss := ss3) (loop := noLoop) tysOk mixed fnsOk ss3Ok 10 20 [PD] [PD] rfl _ fun (a, b) r h => by
  have h' : (if a.length ≤ 2 ^ 40 ∧ b.length ≤ 2 ^ 40 then some (a, b) else none) = some r := h
  split at h'
  · rename_i hb
    rw [← h']
    refine (e20' a b).trans ?_
    have k1 : copyG a = some a := if_pos hb.1
    have k2 : copyG b = some b := if_pos hb.2
    rw [sub_all, sub_all, k1, k2]
    show some (sub a 0 a.length, sub b 0 b.length) = some (a, b)
    rw [sub_all, sub_all]
  · cases h'
theorem e22' (a b c d : List (Fl .f32)) : (fnT Γ4 10 22 [PD, PD] [.bool] ((a, b), (c, d))).den = Option.bind (selfLG (sub a 0 a.length) (sub c 0 c.length)) fun (r0 : Bool) => (bif !r0 then some false else (Option.bind (selfLG (sub b 0 b.length) (sub d 0 d.length)) fun (r1 : Bool) => (bif !r1 then some false else some true))) := by kernel_rfl
def self2S : FSpec := ⟨[PD, PD], [.bool], fun x => if x.1 = x.2 ∧ x.1.1.length < 2 ^ 62 ∧ x.1.2.length < 2 ^ 62 then some true else none⟩
theorem s22 : SpecOk' Try.prog 22 self2S := walked (fs := fs) (ss := ss3) (loop := noLoop) tysOk mixed fnsOk ss3Ok 10 22 [PD, PD] [.bool] rfl _ fun ((a, b), (c, d)) r h => by
  have h' : (if (a, b) = (c, d) ∧ a.length < 2 ^ 62 ∧ b.length < 2 ^ 62 then some true else none) = some r := h
  split at h'
  · rename_i hb
    obtain ⟨e, h1, h2⟩ := hb
    cases e
    rw [← h']
    refine (e22' a b a b).trans ?_
    have k1 : selfLG a a = some true := if_pos ⟨rfl, h1⟩
    have k2 : selfLG b b = some true := if_pos ⟨rfl, h2⟩
    rw [sub_all, sub_all, k1, k2]; rfl
  · cases h'
theorem e18' (a b : List (Fl .f32)) (n : Int) : (fnT Γ4 10 18 [PD, .int .i64] [.int .i64] ((a, b), n)).den = Option.bind (szG (sub a 0 a.length) n) fun (r0 : Int) => (bif decide (r0 < 0) then some (-1) else (Option.bind (szG (sub b 0 b.length) r0) fun (r1 : Int) => (bif decide (r1 < 0) then some (-1) else some r1))) := by kernel_rfl
def szF2 (n : Int) (k l : Nat) : Int := if n < (k : Int) + l then -1 else n - k - l
def sz2S : FSpec := ⟨[PD, .int .i64], [.int .i64], fun x => if 0 ≤ x.2 ∧ x.2 ≤ 2 ^ 20 ∧ x.1.1.length ≤ maxLen ∧ x.1.2.length ≤ maxLen then some (szF2 x.2 x.1.1.length x.1.2.length) else none⟩
theorem sz2 (a b : List (Fl .f32)) (n : Int) (h0 : 0 ≤ n) (h1 : n ≤ 2 ^ 20) (h2 : a.length ≤ maxLen) (h3 : b.length ≤ maxLen) : (Option.bind (szG (sub a 0 a.length) n) fun (r0 : Int) => (bif decide (r0 < 0) then some (-1) else (Option.bind (szG (sub b 0 b.length) r0) fun (r1 : Int) => (bif decide (r1 < 0) then some (-1) else some r1)))) = some (szF2 n a.length b.length) := by
  have k1 : szG a n = some (szF n a.length) := if_pos ⟨h0, h1, h2⟩
  rw [sub_all, sub_all, k1]
  simp only [Option.bind_some]
  by_cases c1 : n < (a.length : Int)
  · have e1 : szF n a.length = -1 := if_pos c1
    have e2 : szF2 n a.length b.length = -1 := if_pos (by omega)
    rw [e1, e2]; rfl
  · have e1 : szF n a.length = n - a.length := if_neg c1
    have k2 : szG b (n - a.length) = some (szF (n - a.length) b.length) := if_pos ⟨by omega, by omega, h3⟩
    rw [e1, decide_eq_false (show ¬ n - (a.length : Int) < 0 by omega), cond_false, k2]
    simp only [Option.bind_some]
    by_cases c2 : n - a.length < (b.length : Int)
    · have e3 : szF (n - a.length) b.length = -1 := if_pos c2
      have e2 : szF2 n a.length b.length = -1 := if_pos (by omega)
      rw [e3, e2]; rfl
    · have e3 : szF (n - a.length) b.length = n - a.length - b.length := if_neg c2
      have e2 : szF2 n a.length b.length = n - a.length - b.length := if_neg (by omega)
      rw [e3, e2, decide_eq_false (by omega)]; rfl
theorem s18 : SpecOk' Try.prog 18 sz2S := walked (fs := fs) (ss := ss3) (loop := noLoop) tysOk mixed fnsOk ss3Ok 10 18 [PD, .int .i64] [.int .i64] rfl _ fun ((a, b), n) r h => by
  have h' : (if (0 : Int) ≤ n ∧ n ≤ (2 ^ 20 : Int) ∧ a.length ≤ maxLen ∧ b.length ≤ maxLen then some (szF2 n a.length b.length) else none) = some r := h
  split at h'
  · rename_i hb
    exact ((e18' a b n).trans (sz2 a b n hb.1 hb.2.1 hb.2.2.1 hb.2.2.2)).trans h'
  · cases h'
def ss4 : List (Nat × FSpec) := [(18, sz2S), (19, eq2S), (20, copy2S), (21, eq2S), (22, self2S)]
theorem ss4Ok : SpecsOk Try.prog ss4 := ⟨s18, s19, s20, s21, s22, trivial⟩
noncomputable def Γ6 : Ctx := ctxOf Try.prog tys fs ss4 noLoop

abbrev Pr := List (Fl .f32) × List (Fl .f32)
def sz2G (x : Pr) (n : Int) : Option Int := if (0 : Int) ≤ n ∧ n ≤ (2 ^ 20 : Int) ∧ x.1.length ≤ maxLen ∧ x.2.length ≤ maxLen then some (szF2 n x.1.length x.2.length) else none
def copy2G (x : Pr) : Option Pr := if x.1.length ≤ 2 ^ 40 ∧ x.2.length ≤ 2 ^ 40 then some x else none
def eq2G (x y : Pr) : Option Bool := if x.1.length < 2 ^ 62 ∧ x.2.length < 2 ^ 62 then some (decide (x.1 = y.1) && decide (x.2 = y.2)) else none
def self2G (x y : Pr) : Option Bool := if x = y ∧ x.1.length < 2 ^ 62 ∧ x.2.length < 2 ^ 62 then some true else none
theorem e6' (a b c d : List (Fl .f32)) : (fnT Γ6 10 6 [PD, PD] [.bool] ((a, b), (c, d))).den = Option.bind (sz2G (sub a 0 a.length, sub b 0 b.length) 1048576) fun (r0 : Int) => (bif decide (r0 < 0) then (some true) else (Option.bind (sz2G (sub c 0 c.length, sub d 0 d.length) r0) fun (r1 : Int) => (bif decide (r1 < 0) then (some true) else (Option.bind (copy2G (sub a 0 a.length, sub b 0 b.length)) fun (r2 : Pr) => (Option.bind (copy2G (sub c 0 c.length, sub d 0 d.length)) fun (r3 : Pr) => (Option.bind (eq2G (sub r2.fst 0 (List.length r2.fst), sub r2.snd 0 (List.length r2.snd)) (sub r3.fst 0 (List.length r3.fst), sub r3.snd 0 (List.length r3.snd))) fun (r4 : Bool) => (Option.bind (copy2G (sub a 0 a.length, sub b 0 b.length)) fun (r5 : Pr) => (Option.bind (copy2G (sub c 0 c.length, sub d 0 d.length)) fun (r6 : Pr) => (Option.bind (eq2G (sub r5.fst 0 (List.length r5.fst), sub r5.snd 0 (List.length r5.snd)) (sub r6.fst 0 (List.length r6.fst), sub r6.snd 0 (List.length r6.snd))) fun (r7 : Bool) => (bif !r7 == r4 then (some false) else (Option.bind (copy2G (sub a 0 a.length, sub b 0 b.length)) fun (r8 : Pr) => (Option.bind (self2G (sub r5.fst 0 (List.length r5.fst), sub r5.snd 0 (List.length r5.snd)) (sub r8.fst 0 (List.length r8.fst), sub r8.snd 0 (List.length r8.snd))) fun (r9 : Bool) => (bif !r9 then (some false) else (Option.bind (copy2G (sub c 0 c.length, sub d 0 d.length)) fun (r10 : Pr) => (Option.bind (self2G (sub r6.fst 0 (List.length r6.fst), sub r6.snd 0 (List.length r6.snd)) (sub r10.fst 0 (List.length r10.fst), sub r10.snd 0 (List.length r10.snd))) fun (r11 : Bool) => (bif !r11 then (some false) else (some true))))))))))))))))) := by kernel_rfl
theorem e6 (a b c d : List (Fl .f32)) (h1 : a.length ≤ maxLen) (h2 : b.length ≤ maxLen) (h3 : c.length ≤ maxLen) (h4 : d.length ≤ maxLen) : (fnT Γ6 10 6 [PD, PD] [.bool] ((a, b), (c, d))).den = some true := by
  rw [e6']
  simp only [sub_all]
  have k1 : sz2G (a, b) 1048576 = some (szF2 1048576 a.length b.length) := if_pos ⟨by omega, by omega, h1, h2⟩
  rw [k1]
  simp only [Option.bind_some]
  by_cases c1 : (1048576 : Int) < (a.length : Int) + b.length
  · have e1 : szF2 1048576 a.length b.length = -1 := if_pos c1
    rw [e1]; rfl
  · have e1 : szF2 1048576 a.length b.length = 1048576 - a.length - b.length := if_neg c1
    rw [e1, decide_eq_false (by omega), cond_false]
    have k2 : sz2G (c, d) (1048576 - a.length - b.length) = some (szF2 (1048576 - a.length - b.length) c.length d.length) := if_pos ⟨by omega, by omega, h3, h4⟩
    rw [k2]
    simp only [Option.bind_some]
    by_cases c2 : (1048576 - a.length - b.length : Int) < (c.length : Int) + d.length
    · have e2 : szF2 (1048576 - a.length - b.length) c.length d.length = -1 := if_pos c2
      rw [e2]; rfl
    · have e2 : szF2 (1048576 - a.length - b.length) c.length d.length = 1048576 - a.length - b.length - c.length - d.length := if_neg c2
      rw [e2, decide_eq_false (by omega), cond_false]
      have p1 : copy2G (a, b) = some (a, b) := if_pos ⟨by show a.length ≤ 2 ^ 40; omega, by show b.length ≤ 2 ^ 40; omega⟩
      have p2 : copy2G (c, d) = some (c, d) := if_pos ⟨by show c.length ≤ 2 ^ 40; omega, by show d.length ≤ 2 ^ 40; omega⟩
      have p3 : eq2G (a, b) (c, d) = some (decide (a = c) && decide (b = d)) := if_pos ⟨by show a.length < 2 ^ 62; omega, by show b.length < 2 ^ 62; omega⟩
      have p4 : self2G (a, b) (a, b) = some true := if_pos ⟨rfl, by show a.length < 2 ^ 62; omega, by show b.length < 2 ^ 62; omega⟩
      have p5 : self2G (c, d) (c, d) = some true := if_pos ⟨rfl, by show c.length < 2 ^ 62; omega, by show d.length < 2 ^ 62; omega⟩
      rw [p1, p2]
      simp only [Option.bind_some]
      rw [p3]
      simp only [Option.bind_some, p4, p5]
      cases (decide (a = c) && decide (b = d)) <;> rfl
theorem s6 : SpecOk' Try.prog 6 ⟨[PD, PD], [.bool], fun x => if x.1.1.length ≤ maxLen ∧ x.1.2.length ≤ maxLen ∧ x.2.1.length ≤ maxLen ∧ x.2.2.length ≤ maxLen then some true else none⟩ :=
  walked (fs := fs) (ss := ss4) (loop := noLoop) tysOk mixed fnsOk ss4Ok 10 6 [PD, PD] [.bool] rfl _ fun ((a, b), (c, d)) r h => by
  have h' : (if a.length ≤ maxLen ∧ b.length ≤ maxLen ∧ c.length ≤ maxLen ∧ d.length ≤ maxLen then some true else none) = some r := h
  split at h'
  · rename_i hb; exact (e6 a b c d hb.1 hb.2.1 hb.2.2.1 hb.2.2.2).trans h'
  · cases h'
open Go.RowKit Go.ChangeShapes Go.WideShapes Go.ChangeAt
set_option maxRecDepth 100000 in
theorem lifted6 (os : Os) (started : os.Started) (H : Type) (enc : TypeId × Value → H) :
    ReturnsInHanded {} Try.checked os 6 .any (Rows.fnExactSameProgramSpec.pre6 enc Try.prog Try.f6 Rows.fnExactSameProgramRow.domain false) (Rows.fnExactSameProgramSpec.post enc Try.prog Try.f6 false true false false) := by
  refine returnsInHanded_of_change (C := Try.checked) own started (by kernel_rfl) Try.func6
    (ChangeSpec.witness6 (enc := enc) (C := Try.checked) false ⟨#[], #[.agg #[.slice none 0 0, .slice none 0 0], .agg #[.slice none 0 0, .slice none 0 0]], []⟩ 8 (by kernel_rfl) (by kernel_rfl) (by kernel_rfl) (by kernel_rfl)) ?_
  intro W base args ds gs before hval hW _ _
  exact law_post (P := Try.prog) (fn := Try.f6) (s := Rows.fnExactSameProgramSpec) laidOut s6 Try.func6 rfl (by kernel_rfl) (by kernel_rfl) (by kernel_rfl) rfl Try.underlying4 rfl (fun ds h => by
    match ds, h with
    | [d, d'], _ => exact ⟨rfl, rfl, rfl⟩) (fun ((a, b), (c, d)) hw => by
      obtain ⟨⟨h1, h2⟩, h3, h4⟩ := hw
      exact if_pos ⟨h1.1, h2.1, h3.1, h4.1⟩) W base args ds gs before hval hW

theorem over6 : Rows.FnExactSameProgramSaid :=
  OpenClaim.holds_of_wide 6 Try.f6 rfl rfl rfl rfl rfl rfl rfl ⟨rfl, rfl, rfl, rfl, rfl⟩ rfl rfl rfl rfl rfl (by kernel_rfl) Try.func6 (by kernel_rfl)
    (of_decide_eq_true (by kernel_rfl)) (by unfold Func.isWrapper; first | (rw [if_pos (by decide +kernel)]; kernel_rfl) | (rw [if_neg (by decide +kernel)]; exact ⟨rfl, rfl⟩))
    (fun os started H enc _ => lifted6 os started H enc)
end Go.Proofs.Ythikgdgnfhafaaa
