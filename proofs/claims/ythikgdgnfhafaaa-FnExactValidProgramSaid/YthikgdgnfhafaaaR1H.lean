/- The program's ValidProgram answers as the reference's does, at all arguments. No condition. -/
import Derived.Test.YthikgdgnfhafaaaR1G
namespace Go.Proofs.Ythikgdgnfhafaaa
open Go.Ab
abbrev SV (a b : List (Fl .f32)) (i : Nat) : St29 := (((a.length : Int), ((i : Int), ())), (a, (b, ((a.length, (b.length, ())), ()))))
abbrev rises (a : List (Fl .f32)) (i : Nat) : Prop := fgt (a.getD i dN) (a.getD (i - 1) dN) = true
abbrev stop29 (a b : List (Fl .f32)) (i : Nat) : Option Out43 := if rises a i then none else some (.inr ((false, ()), (a, (b, ()))))
theorem dec1 (i : Nat) (h : 1 ≤ i) (h2 : (i : Int) < 2 ^ 62) : IntKind.i64.wrap ((i : Int) - 1) = ((i - 1 : Nat) : Int) := by rw [wrap64 (by omega) (by omega)]; omega
theorem firstOf_shift {ρ : Type} (f : Nat → Option ρ) : ∀ m i, firstOf (fun i => f (i + 1)) m i = firstOf f m (i + 1)
  | 0, _ => rfl
  | m + 1, i => by
    unfold firstOf
    cases f (i + 1) with
    | some r => rfl
    | none => exact firstOf_shift f m (i + 1)
theorem loop29 (a b : List (Fl .f32)) (hn : 2 ≤ a.length) (hb : a.length < 2 ^ 62) : iter B29 a.length (SV a b 1) = some ((firstOf (stop29 a b) (a.length - 1) 1).getD (.inl ((), (a, (b, ()))))) := by
  have key := iter_find B29 (fun i => SV a b (i + 1)) (a.length - 1) (fun i => stop29 a b (i + 1)) (.inl ((), (a, (b, ())))) (fun i hi => by
    have h1 : decide (((i + 1 : Nat) : Int) < (a.length : Int)) = true := by simp; omega
    have h2 : inB ((i + 1 : Nat) : Int) a.length = true := inB_of (by omega)
    have h3 : IntKind.i64.wrap (((i + 1 : Nat) : Int) - 1) = ((i : Nat) : Int) := by rw [wrap64 (by omega) (by omega)]; omega
    have h4 : inB (i : Int) a.length = true := inB_of (by omega)
    have h5 : IntKind.i64.wrap (((i + 1 : Nat) : Int) + 1) = ((i + 1 + 1 : Nat) : Int) := by rw [wrap64 (by omega) (by omega)]; omega
    unfold B29 stop29 rises
    simp only [h1, h2, h3, h4, h5, cond_true, Int.toNat_natCast, Nat.zero_add, Nat.add_sub_cancel]
    by_cases e : fgt (a.getD (i + 1) dN) (a.getD i dN) = true
    · rw [if_pos e, e]; rfl
    · rw [if_neg e, Bool.eq_false_iff.2 e]; rfl) (by
    have h1 : decide (((a.length - 1 + 1 : Nat) : Int) < (a.length : Int)) = false := by simp; omega
    unfold B29
    simp only [h1, cond_false]) (a.length - 1) 0 (Nat.zero_add _)
  have e : a.length - 1 + 1 = a.length := by omega
  rw [e] at key
  rw [← firstOf_shift]
  exact key
abbrev good (a b : List (Fl .f32)) (i : Nat) : Prop := fin (a.getD i dN) = true ∧ fin (b.getD i dN) = true ∧ (1 ≤ i → rises a i)
abbrev bad49 (a b : List (Fl .f32)) : Out49 := .inr ((false, ()), (a, (b, ((a.length, (b.length, ())), ()))))
open Classical in
noncomputable abbrev stop49 (a b : List (Fl .f32)) (i : Nat) : Option Out49 := if good a b i then none else some (bad49 a b)
open Classical in
theorem loop28 (a b : List (Fl .f32)) (he : b.length = a.length) (hb : a.length < 2 ^ 62) : iter B28 (a.length + 1) (SV a b 0) = some ((firstOf (stop49 a b) a.length 0).getD (.inl ((), (a, (b, ((a.length, (b.length, ())), ())))))) := by
  exact iter_find B28 (fun i => SV a b i) a.length (fun i => stop49 a b i) (.inl ((), (a, (b, ((a.length, (b.length, ())), ()))))) (fun i hi => by
    have h1 : decide (((i : Nat) : Int) < (a.length : Int)) = true := by simp; omega
    have h2 : inB (i : Int) a.length = true := inB_of hi
    have h3 : inB (i : Int) b.length = true := inB_of (by omega)
    have h5 : IntKind.i64.wrap ((i : Int) + 1) = ((i + 1 : Nat) : Int) := by rw [wrap64 (by omega) (by omega)]; omega
    unfold B28 stop49 good finG
    simp only [h1, h2, h3, h5, cond_true, Int.toNat_natCast, Nat.zero_add, Option.bind_some]
    by_cases k1 : fin (a.getD i dN) = true
    · by_cases k2 : fin (b.getD i dN) = true
      · rw [k1, k2]
        by_cases k3 : 1 ≤ i
        · have h6 : decide ((i : Int) > 0) = true := by simp; omega
          have h7 := dec1 i k3 (by omega)
          have h8 : inB ((i - 1 : Nat) : Int) a.length = true := inB_of (by omega)
          simp only [h6, h7, h8, cond_true, cond_false, Bool.not_true, Int.toNat_natCast]
          by_cases k4 : fgt (a.getD i dN) (a.getD (i - 1) dN) = true
          · rw [if_pos ⟨trivial, trivial, fun _ => k4⟩, k4]; rfl
          · rw [if_neg (fun h => k4 (h.2.2 k3)), Bool.eq_false_iff.2 k4]; rfl
        · have h6 : decide ((i : Int) > 0) = false := by simp; omega
          rw [if_pos ⟨rfl, rfl, fun h => absurd h k3⟩]
          simp only [h6, cond_false, Bool.not_true]
      · rw [if_neg (fun h => k2 h.2.1), k1, Bool.eq_false_iff.2 k2]; rfl
    · rw [if_neg (fun h => k1 h.1), Bool.eq_false_iff.2 k1]; rfl) (by
    have h1 : decide ((a.length : Int) < (a.length : Int)) = false := by simp
    unfold B28
    simp only [h1, cond_false]) a.length 0 (Nat.zero_add _)
open Classical in
noncomputable def vp (a b : List (Fl .f32)) : Bool := decide (2 ≤ a.length ∧ a.length ≤ 32 ∧ b.length = a.length ∧ fge (a.getD 0 dN) (Fl.of .f32 0) = true ∧ ∀ i, i < a.length → good a b i)
theorem vp_false {a b : List (Fl .f32)} (h : ¬ (2 ≤ a.length ∧ a.length ≤ 32 ∧ b.length = a.length ∧ fge (a.getD 0 dN) (Fl.of .f32 0) = true ∧ ∀ i, i < a.length → good a b i)) : vp a b = false := decide_eq_false h
theorem vp_true {a b : List (Fl .f32)} (h : 2 ≤ a.length ∧ a.length ≤ 32 ∧ b.length = a.length ∧ fge (a.getD 0 dN) (Fl.of .f32 0) = true ∧ ∀ i, i < a.length → good a b i) : vp a b = true := decide_eq_true h
theorem e28 (a b : List (Fl .f32)) : (fnT ΓC 10 28 [PD] [.bool] (a, b)).den = some (vp a b) := by
  rw [e28']
  by_cases c1 : 2 ≤ a.length
  · rw [decide_eq_false (show ¬ (a.length : Int) < 2 by omega), cond_false]
    by_cases c2 : a.length ≤ 32
    · rw [decide_eq_false (show ¬ (a.length : Int) > 32 by omega), cond_false]
      by_cases c3 : b.length = a.length
      · have h3 : ((b.length : Int) != (a.length : Int)) = false := by simp [c3]
        have h4 : inB 0 a.length = true := inB_of (i := 0) (by omega)
        rw [h3, cond_false, h4, cond_true]
        have g0 : a.getD (0 + Int.toNat 0) dN = a.getD 0 dN := rfl
        rw [g0]
        by_cases c4 : fge (a.getD 0 dN) (Fl.of .f32 0) = true
        · rw [c4]
          have key := loop28 a b c3 (by omega)
          refine (congrArg (fun z => Option.bind z _) key).trans ?_
          cases hf : firstOf (stop49 a b) a.length 0 with
          | none =>
            rw [vp_true ⟨c1, c2, c3, c4, fun i hi => ?_⟩]
            · rfl
            · have := (firstOf_none _ _ _).1 hf i (Nat.zero_le _) (by omega)
              unfold stop49 at this
              split at this
              · assumption
              · cases this
          | some r =>
            obtain ⟨j, _, hj, hs⟩ := firstOf_some _ _ _ _ hf
            unfold stop49 at hs
            split at hs
            · cases hs
            · rename_i hg
              cases hs
              rw [vp_false fun h => hg (h.2.2.2.2 j (by omega))]; rfl
        · rw [vp_false fun h => c4 h.2.2.2.1, Bool.eq_false_iff.2 c4]; rfl
      · have h3 : ((b.length : Int) != (a.length : Int)) = true := by simp; omega
        rw [vp_false fun h => c3 h.2.2.1, h3]; rfl
    · rw [vp_false fun h => c2 h.2.1, decide_eq_true (show (a.length : Int) > 32 by omega)]; rfl
  · rw [vp_false fun h => c1 h.1, decide_eq_true (show (a.length : Int) < 2 by omega)]; rfl
theorem all_get {l : List (Fl .f32)} : l.all fin = true ↔ ∀ i, i < l.length → fin (l.getD i dN) = true := by
  rw [List.all_eq_true]
  constructor
  · intro h i hi
    have := h l[i] (List.getElem_mem _)
    simpa [List.getD_eq_getElem?_getD, hi] using this
  · intro h x hx
    obtain ⟨j, hj, rfl⟩ := List.getElem_of_mem hx
    have := h j hj
    simpa [List.getD_eq_getElem?_getD, hj] using this
theorem e29 (a b : List (Fl .f32)) (hb : b.length < 2 ^ 62) : (fnT ΓC 10 29 [PD] [.bool] (a, b)).den = some (vp a b) := by
  rw [e29']
  by_cases c1 : 2 ≤ a.length
  · rw [decide_eq_true (show (2 : Int) ≤ (a.length : Int) by omega), cond_true]
    by_cases c2 : a.length ≤ 32
    · rw [decide_eq_true (show (a.length : Int) ≤ 32 by omega)]
      simp only [Bool.not_true, cond_false]
      by_cases c3 : b.length = a.length
      · have h3 : ((b.length : Int) != (a.length : Int)) = false := by simp [c3]
        have h4 : inB 0 a.length = true := inB_of (i := 0) (by omega)
        have p1 : allG a = some (a.all fin) := if_pos (by omega)
        have p2 : allG b = some (b.all fin) := if_pos hb
        rw [h3, cond_false, sub_all, sub_all, p1, p2, h4]
        simp only [Option.bind_some, cond_true]
        cases k1 : a.all fin with
        | false =>
          rw [vp_false fun h => ?_]
          · rfl
          · have := all_get.2 fun i hi => (h.2.2.2.2 i hi).1
            rw [k1] at this; cases this
        | true =>
          cases k2 : b.all fin with
          | false =>
            rw [vp_false fun h => ?_]
            · rfl
            · have := all_get.2 fun i hi => (h.2.2.2.2 i (by omega)).2.1
              rw [k2] at this; cases this
          | true =>
            simp only [Bool.not_true, cond_false]
            have g0 : a.getD (0 + Int.toNat 0) dN = a.getD 0 dN := rfl
            rw [g0]
            by_cases c4 : fge (a.getD 0 dN) (Fl.of .f32 0) = true
            · rw [c4]
              have key := loop29 a b c1 (by omega)
              have key' : iter B29 (L29.fuel (((a.length : Int), 1, ()), a, b, (a.length, b.length, ()), ())) ((((a.length : Int), (1, ())), (a, (b, ((a.length, (b.length, ())), ()))))) = _ := key
              simp only [Bool.not_true, cond_false]
              refine (congrArg (fun z => Option.bind z _) key').trans ?_
              cases hf : firstOf (stop29 a b) (a.length - 1) 1 with
              | none =>
                rw [vp_true ⟨c1, c2, c3, c4, fun i hi => ⟨all_get.1 k1 i hi, all_get.1 k2 i (by omega), fun h1 => ?_⟩⟩]
                · rfl
                · have := (firstOf_none _ _ _).1 hf i h1 (by omega)
                  unfold stop29 at this
                  split at this
                  · assumption
                  · cases this
              | some r =>
                obtain ⟨j, hj1, hj, hs⟩ := firstOf_some _ _ _ _ hf
                unfold stop29 at hs
                split at hs
                · cases hs
                · rename_i hg
                  cases hs
                  rw [vp_false fun h => hg ((h.2.2.2.2 j (by omega)).2.2 hj1)]; rfl
            · rw [vp_false fun h => c4 h.2.2.2.1, Bool.eq_false_iff.2 c4]; rfl
      · have h3 : ((b.length : Int) != (a.length : Int)) = true := by simp; omega
        rw [vp_false fun h => c3 h.2.2.1, h3]; rfl
    · rw [vp_false fun h => c2 h.2.1, decide_eq_false (show ¬ (a.length : Int) ≤ 32 by omega)]; rfl
  · rw [vp_false fun h => c1 h.1, decide_eq_false (show ¬ (2 : Int) ≤ (a.length : Int) by omega)]; rfl
noncomputable def vpG (x : Pr) : Option Bool := if x.2.length < 2 ^ 62 then some (vp x.1 x.2) else none
noncomputable def vpS : FSpec := ⟨[PD], [.bool], vpG⟩
theorem s28 : SpecOk' Try.prog 28 vpS := walked (fs := fs) (ss := ssC) (loop := loopsC) tysOk mixed fnsOk ssCOk 10 28 [PD] [.bool] rfl _ fun (a, b) r h => by
  have h' : (if b.length < 2 ^ 62 then some (vp a b) else none) = some r := h
  split at h'
  · exact (e28 a b).trans h'
  · cases h'
theorem s29 : SpecOk' Try.prog 29 vpS := walked (fs := fs) (ss := ssC) (loop := loopsC) tysOk mixed fnsOk ssCOk 10 29 [PD] [.bool] rfl _ fun (a, b) r h => by
  have h' : (if b.length < 2 ^ 62 then some (vp a b) else none) = some r := h
  split at h'
  · rename_i hb; exact (e29 a b hb).trans h'
  · cases h'
noncomputable def ssD : List (Nat × FSpec) := [(18, sz2S), (28, vpS), (20, copy2S), (29, vpS), (22, self2S)]
theorem ssDOk : SpecsOk Try.prog ssD := ⟨s18, s28, s20, s29, s22, trivial⟩
noncomputable def Γ8 : Ctx := ctxOf Try.prog tys fs ssD noLoop
theorem e8' (a b : List (Fl .f32)) : (fnT Γ8 10 8 [PD] [.bool] (a, b)).den = Option.bind (sz2G (sub a 0 a.length, sub b 0 b.length) 1048576) fun (r0 : Int) => (bif decide (r0 < 0) then (some (true)) else (Option.bind (copy2G (sub a 0 a.length, sub b 0 b.length)) fun (r1 : Pr) => (Option.bind (vpG (sub r1.1 0 (List.length r1.1), sub r1.2 0 (List.length r1.2))) fun (r2 : Bool) => (Option.bind (copy2G (sub a 0 a.length, sub b 0 b.length)) fun (r3 : Pr) => (Option.bind (vpG (sub r3.1 0 (List.length r3.1), sub r3.2 0 (List.length r3.2))) fun (r4 : Bool) => (bif !r4 == r2 then (some (false)) else (Option.bind (copy2G (sub a 0 a.length, sub b 0 b.length)) fun (r5 : Pr) => (Option.bind (self2G (sub r3.1 0 (List.length r3.1), sub r3.2 0 (List.length r3.2)) (sub r5.1 0 (List.length r5.1), sub r5.2 0 (List.length r5.2))) fun (r6 : Bool) => (bif !r6 then (some (false)) else (some (true))))))))))) := by kernel_rfl
theorem e8 (a b : List (Fl .f32)) (h1 : a.length ≤ maxLen) (h2 : b.length ≤ maxLen) : (fnT Γ8 10 8 [PD] [.bool] (a, b)).den = some true := by
  rw [e8']
  simp only [sub_all]
  have k1 : sz2G (a, b) 1048576 = some (szF2 1048576 a.length b.length) := if_pos ⟨by omega, by omega, h1, h2⟩
  rw [k1]
  simp only [Option.bind_some]
  by_cases c1 : (1048576 : Int) < (a.length : Int) + b.length
  · have e1 : szF2 1048576 a.length b.length = -1 := if_pos c1
    rw [e1]; rfl
  · have e1 : szF2 1048576 a.length b.length = 1048576 - a.length - b.length := if_neg c1
    rw [e1, decide_eq_false (by omega), cond_false]
    have p1 : copy2G (a, b) = some (a, b) := if_pos ⟨by show a.length ≤ 2 ^ 40; omega, by show b.length ≤ 2 ^ 40; omega⟩
    have p3 : vpG (a, b) = some (vp a b) := if_pos (by show b.length < 2 ^ 62; omega)
    have p4 : self2G (a, b) (a, b) = some true := if_pos ⟨rfl, by show a.length < 2 ^ 62; omega, by show b.length < 2 ^ 62; omega⟩
    rw [p1]
    simp only [Option.bind_some]
    rw [p3]
    simp only [Option.bind_some, p4]
    cases vp a b <;> rfl
theorem s8 : SpecOk' Try.prog 8 ⟨[PD], [.bool], fun x => if x.1.length ≤ maxLen ∧ x.2.length ≤ maxLen then some true else none⟩ :=
  walked (fs := fs) (ss := ssD) (loop := noLoop) tysOk mixed fnsOk ssDOk 10 8 [PD] [.bool] rfl _ fun (a, b) r h => by
  have h' : (if a.length ≤ maxLen ∧ b.length ≤ maxLen then some true else none) = some r := h
  split at h'
  · rename_i hb; exact (e8 a b hb.1 hb.2).trans h'
  · cases h'
open Go.RowKit Go.ChangeShapes Go.WideShapes Go.ChangeAt
set_option maxRecDepth 100000 in
theorem lifted8 (os : Os) (started : os.Started) (H : Type) (enc : TypeId × Value → H) :
    ReturnsInHanded {} Try.checked os 8 .any (Rows.fnExactValidProgramSpec.pre6 enc Try.prog Try.f8 Rows.fnExactValidProgramRow.domain false) (Rows.fnExactValidProgramSpec.post enc Try.prog Try.f8 false true false false) := by
  refine returnsInHanded_of_change (C := Try.checked) own started (by kernel_rfl) Try.func8
    (ChangeSpec.witness6 (enc := enc) (C := Try.checked) false ⟨#[], #[.agg #[.slice none 0 0, .slice none 0 0]], []⟩ 8 (by kernel_rfl) (by kernel_rfl) (by kernel_rfl) (by kernel_rfl)) ?_
  intro W base args ds gs before hval hW _ _
  exact law_post (P := Try.prog) (fn := Try.f8) (s := Rows.fnExactValidProgramSpec) laidOut s8 Try.func8 rfl (by kernel_rfl) (by kernel_rfl) (by kernel_rfl) rfl Try.underlying4 rfl (fun ds h => by
    match ds, h with
    | [d], _ => exact ⟨rfl, rfl, rfl⟩) (fun (a, b) hw => by
      obtain ⟨h1, h2⟩ := hw
      exact if_pos ⟨h1.1, h2.1⟩) W base args ds gs before hval hW

theorem over8 : Rows.FnExactValidProgramSaid :=
  OpenClaim.holds_of_wide 8 Try.f8 rfl rfl rfl rfl rfl rfl rfl ⟨rfl, rfl, rfl, rfl, rfl⟩ rfl rfl rfl rfl rfl (by kernel_rfl) Try.func8 (by kernel_rfl)
    (of_decide_eq_true (by kernel_rfl)) (by unfold Func.isWrapper; first | (rw [if_pos (by decide +kernel)]; kernel_rfl) | (rw [if_neg (by decide +kernel)]; exact ⟨rfl, rfl⟩))
    (fun os started H enc _ => lifted8 os started H enc)
end Go.Proofs.Ythikgdgnfhafaaa
