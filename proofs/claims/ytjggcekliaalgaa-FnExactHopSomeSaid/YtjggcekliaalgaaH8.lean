/- Some hops: both sides. No condition. -/
import Derived.Test.YtjggcekliaalgaaH7
namespace Go.Proofs.Ytjggcekliaalgaa
open Go.Ab
theorem sub_len {α : Type} {l : List α} {n : Nat} (h : l.length = n) : sub l 0 n = l := by subst h; exact sub_all l
theorem hop_true {w g : Int} {l : LI} {i k : Int} (h : (hopF w g l i k).2.2 = true) : (hopF w g l i k).1 = (w, g, hopL w g l i k) ∧ okH (w, g, hopL w g l i k) := by
  by_cases c : l.getD i.toNat 0 = 0
  · have e : hopF w g l i k = ((0, 0, []), 0, false) := by unfold hopF; rw [decide_eq_true c]; rfl
    rw [e] at h; cases h
  · by_cases ok : okH (w, g, hopL w g l i k)
    · have e : hopF w g l i k = ((w, g, hopL w g l i k), bondsF w g l - bondsF w g (hopL w g l i k), true) := by unfold hopF; rw [decide_eq_false c, decide_eq_true ok]; rfl
      rw [e]; exact ⟨rfl, ok⟩
    · have e : hopF w g l i k = ((0, 0, []), 0, false) := by unfold hopF; rw [decide_eq_false c, decide_eq_false ok]; rfl
      rw [e] at h; cases h
theorem hop_cost {w g : Int} {l : LI} (hk : okH (w, g, l)) (i k : Int) : (hopF w g l i k).2.1 ≤ 512000 := by
  unfold hopF
  cases decide (l.getD i.toNat 0 = 0) with
  | true => show (0 : Int) ≤ 512000; decide
  | false =>
    by_cases ok : okH (w, g, hopL w g l i k)
    · have a := bonds_b hk
      have b := bonds_b ok
      rw [decide_eq_true ok]
      show bondsF w g l - bondsF w g (hopL w g l i k) ≤ 512000
      omega
    · rw [decide_eq_false ok]; show (0 : Int) ≤ 512000; decide
def hpF (w g : Int) (l : LI) (s : Int) : HT × Int × Bool := hopF w g l (nextF s / 65536 % w + w * (nextF (nextF s) / 65536 % g)) (nextF (nextF (nextF s)) / 65536 % 4)
def nxt4 (s : Int) : Int := nextF (nextF (nextF (nextF s)))
def tkF (w g : Int) (c l : LI) (s : Int) : Bool := (hpF w g l s).2.2 && madeF (hpF w g l s).2.1 (nxt4 s / 65536 % 32768) c
def stN (w g : Int) (c l : LI) (s : Int) : Nat → LI × Int × Int
  | 0 => (l, 0, s)
  | r + 1 => bif tkF w g c (stN w g c l s r).1 (stN w g c l s r).2.2 then ((hpF w g (stN w g c l s r).1 (stN w g c l s r).2.2).1.2.2, (stN w g c l s r).2.1 + 1, nxt4 (stN w g c l s r).2.2) else ((stN w g c l s r).1, (stN w g c l s r).2.1, nxt4 (stN w g c l s r).2.2)
theorem stN_ok {w g : Int} {c l : LI} {s : Int} (hk : okH (w, g, l)) (hs : sdOk s) : ∀ r : Nat, okH (w, g, (stN w g c l s r).1) ∧ (0 ≤ (stN w g c l s r).2.1 ∧ (stN w g c l s r).2.1 ≤ (r : Int)) ∧ sdOk (stN w g c l s r).2.2
  | 0 => ⟨hk, ⟨Int.le_refl _, Int.le_refl _⟩, hs⟩
  | r + 1 => by
    obtain ⟨h1, h2, h3⟩ := stN_ok (c := c) hk hs r
    unfold stN
    cases ht : tkF w g c (stN w g c l s r).1 (stN w g c l s r).2.2 with
    | true =>
      unfold tkF at ht
      rw [Bool.and_eq_true] at ht
      obtain ⟨e, ok⟩ := hop_true ht.1
      refine ⟨?_, ⟨by show 0 ≤ (stN w g c l s r).2.1 + 1; omega, by show (stN w g c l s r).2.1 + 1 ≤ ((r + 1 : Nat) : Int); omega⟩, next_ok _⟩
      show okH (w, g, (hpF w g (stN w g c l s r).1 (stN w g c l s r).2.2).1.2.2)
      unfold hpF
      rw [e]
      exact ok
    | false => exact ⟨h1, ⟨h2.1, by show (stN w g c l s r).2.1 ≤ ((r + 1 : Nat) : Int); omega⟩, next_ok _⟩
theorem stN_len {w g : Int} {c l : LI} {s : Int} (hk : okH (w, g, l)) (hs : sdOk s) (r : Nat) : (stN w g c l s r).1.length = l.length := by
  have h1 : ((stN w g c l s r).1.length : Int) = w * g := (stN_ok (c := c) hk hs r).1.2.1
  have h2 : (l.length : Int) = w * g := hk.2.1
  omega
abbrev SoT : Type := HT × Int × Int × Bool
def someF (w g : Int) (l : LI) (n s : Int) (c : LI) : SoT := bif decide (okH (w, g, l)) && ((decide (0 ≤ n) && decide (n ≤ 500)) && ((decide (0 ≤ s) && decide (s ≤ 2147483647)) && (decide (c.length ≤ 8) && areB 0 32768 c))) then ((w, g, (stN w g c l s n.toNat).1), (stN w g c l s n.toNat).2.1, (stN w g c l s n.toNat).2.2, true) else ((0, 0, []), 0, 0, false)
def someG (x : HT × Int × Int × LI) : Option SoT := if x.1.2.2.length < 2 ^ 62 ∧ x.2.2.2.length < 2 ^ 62 then some (someF x.1.1 x.1.2.1 x.1.2.2 x.2.1 x.2.2.1 x.2.2.2) else none
def someS : FSpec := ⟨[HD, I64, I64, L64], [HD, I64, I64, .bool], someG⟩
abbrev hzz : Int × Int × Nat × Unit := (0, (0, (0, ())))
def L_SomeS_1 : LSpec := ⟨[1, 2, 3, 4, 8, 45, 46], ⟨Shs.at 112 [(1, (.int IntKind.i64)), (2, (.int IntKind.i64)), (3, (.slc 3)), (4, (.ptr 2146435328 0 0)), (8, (.ptr 2146435329 0 0)), (45, (.int IntKind.i64)), (46, (.int IntKind.i64))], [(2, (.arr false (EK.int IntKind.i64))), (3, (.arr false (EK.int IntKind.i64))), (2146435328, (.vals true (.cons (.int IntKind.i64) (.cons (.int IntKind.i64) (.cons (.slc 2) .nil))))), (2146435329, (.vals true (.cons (.int IntKind.i64) (.cons (.int IntKind.i64) (.cons (.slc 2146435330) .nil))))), (2146435330, (.arr true (EK.int IntKind.i64)))]⟩, [⟨.ret, [8, 9, 10, 11], ⟨Shs.at 112 [(8, (.ptr 2146435328 0 0)), (9, (.int IntKind.i64)), (10, (.int IntKind.i64)), (11, .bool)], [(2, (.arr false (EK.int IntKind.i64))), (3, (.arr false (EK.int IntKind.i64))), (2146435328, (.vals true (.cons (.int IntKind.i64) (.cons (.int IntKind.i64) (.cons (.slc 2146435329) .nil))))), (2146435329, (.arr true (EK.int IntKind.i64)))]⟩⟩, ⟨.ext 0, [1, 2, 3, 4, 8], ⟨Shs.at 112 [(1, (.int IntKind.i64)), (2, (.int IntKind.i64)), (3, (.slc 3)), (4, (.ptr 2146435328 0 0)), (8, (.ptr 2146435329 0 0))], [(2, (.arr false (EK.int IntKind.i64))), (3, (.arr false (EK.int IntKind.i64))), (2146435328, (.vals true (.cons (.int IntKind.i64) (.cons (.int IntKind.i64) (.cons (.slc 2) .nil))))), (2146435329, (.vals true (.cons (.int IntKind.i64) (.cons (.int IntKind.i64) (.cons (.slc 2146435330) .nil))))), (2146435330, (.arr true (EK.int IntKind.i64)))]⟩⟩], fun _ => bigN⟩
def L_SomeS_2 : LSpec := ⟨[1, 2, 3, 4, 8, 13, 14], ⟨Shs.at 112 [(1, (.int IntKind.i64)), (2, (.int IntKind.i64)), (3, (.slc 3)), (4, (.ptr 2146435776 0 0)), (8, (.ptr 2146435777 0 0)), (13, (.ptr 2146435778 0 0)), (14, (.int IntKind.i64))], [(2, (.arr false (EK.int IntKind.i64))), (3, (.arr false (EK.int IntKind.i64))), (2146435776, (.vals true (.cons (.int IntKind.i64) (.cons (.int IntKind.i64) (.cons (.slc 2) .nil))))), (2146435777, (.vals true (.cons (.int IntKind.i64) (.cons (.int IntKind.i64) (.cons (.slc 2146435779) .nil))))), (2146435778, (.vals true (.cons (.int IntKind.i64) (.cons (.int IntKind.i64) (.cons (.slc 2146435780) .nil))))), (2146435779, (.arr true (EK.int IntKind.i64))), (2146435780, (.arr true (EK.int IntKind.i64)))]⟩, [⟨.ext 2, [2, 8, 13, 14], ⟨Shs.at 112 [(2, (.int IntKind.i64)), (8, (.ptr 2146435776 0 0)), (13, (.ptr 2146435777 0 0)), (14, (.int IntKind.i64))], [(2, (.arr false (EK.int IntKind.i64))), (3, (.arr false (EK.int IntKind.i64))), (2146435776, (.vals true (.cons (.int IntKind.i64) (.cons (.int IntKind.i64) (.cons (.slc 2146435778) .nil))))), (2146435777, (.vals true (.cons (.int IntKind.i64) (.cons (.int IntKind.i64) (.cons (.slc 2146435779) .nil))))), (2146435778, (.arr true (EK.int IntKind.i64))), (2146435779, (.arr true (EK.int IntKind.i64)))]⟩⟩], fun _ => bigN⟩
def loops_SomeS (f k n : Nat) : Option LSpec := bif (Nat.beq f 25 && Nat.beq k 4 && Nat.beq n 1) then some L_SomeS_1 else bif (Nat.beq f 25 && Nat.beq k 11 && Nat.beq n 1) then some L_SomeS_2 else none
abbrev S_SomeS_1 : Type := ((Int × (Int × (Nat × (Int × (Int × Unit))))) × ((List Int) × ((List Int) × ((Int × (Int × (Nat × Unit))) × ((Int × (Int × (Nat × Unit))) × ((List Int) × Unit))))))
abbrev R_SomeS_1 : Type := (((Int × (Int × (Bool × Unit))) × ((List Int) × ((List Int) × ((Int × (Int × (Nat × Unit))) × ((List Int) × Unit))))) ⊕ ((Int × (Int × (Nat × Unit))) × ((List Int) × ((List Int) × ((Int × (Int × (Nat × Unit))) × ((Int × (Int × (Nat × Unit))) × ((List Int) × Unit)))))))
noncomputable def B_SomeS_1 (y : S_SomeS_1) : Option (S_SomeS_1 ⊕ R_SomeS_1) := bif decide (y.1.2.2.2.2.1 < y.1.2.2.2.1) then (bif inB y.1.2.2.2.2.1 y.1.2.2.1 then (Option.bind (withinG (List.getD y.2.2.1 (0 + Int.toNat y.1.2.2.2.2.1) (0 : Int), 0, 32768)) fun (r4 : Bool) => (bif !r4 then (some (Sum.inr (Sum.inl (((0, (0, (false, ()))), (y.2.1, (y.2.2.1, ((0, (0, (0, ()))), ([], ()))))))))) else (some (Sum.inl (((y.1.1, (y.1.2.1, (y.1.2.2.1, (y.1.2.2.2.1, (IntKind.i64.wrap (y.1.2.2.2.2.1 + 1), ()))))), (y.2.1, (y.2.2.1, ((y.2.2.2.1.1, (y.2.2.2.1.2.1, (y.2.2.2.1.2.2.1, ()))), ((y.2.2.2.2.1.1, (y.2.2.2.2.1.2.1, (y.2.2.2.2.1.2.2.1, ()))), (y.2.2.2.2.2.1, ()))))))))))) else (none)) else (some (Sum.inr (Sum.inr (((y.1.1, (y.1.2.1, (y.1.2.2.1, ()))), (y.2.1, (y.2.2.1, ((y.2.2.2.1.1, (y.2.2.2.1.2.1, (y.2.2.2.1.2.2.1, ()))), ((y.2.2.2.2.1.1, (y.2.2.2.2.1.2.1, (y.2.2.2.2.1.2.2.1, ()))), (y.2.2.2.2.2.1, ()))))))))))
abbrev S_SomeS_2 : Type := ((Int × (Int × (Nat × (Int × Unit)))) × ((List Int) × ((List Int) × ((Int × (Int × (Nat × Unit))) × ((Int × (Int × (Nat × Unit))) × ((Int × (Int × (Nat × Unit))) × ((List Int) × ((List Int) × Unit))))))))
abbrev R_SomeS_2 : Type := ((Int × (Int × Unit)) × ((List Int) × ((List Int) × ((Int × (Int × (Nat × Unit))) × ((Int × (Int × (Nat × Unit))) × ((List Int) × ((List Int) × Unit)))))))
noncomputable def B_SomeS_2 (y : S_SomeS_2) : Option (S_SomeS_2 ⊕ R_SomeS_2) := bif decide (y.1.1 > 0) then (Option.bind (draw2G (y.1.2.1, y.2.2.2.1.1)) fun (r8 : (Int × Int)) => (Option.bind (draw2G (r8.2, y.2.2.2.1.2.1)) fun (r9 : (Int × Int)) => (Option.bind (draw2G (r9.2, 4)) fun (r10 : (Int × Int)) => (Option.bind (draw2G (r10.2, 32768)) fun (r11 : (Int × Int)) => (Option.bind (hopG ((y.2.2.2.2.2.1.1, y.2.2.2.2.2.1.2.1, sub y.2.2.2.2.2.2.2.1 0 y.2.2.2.2.2.1.2.2.1), IntKind.i64.wrap (r8.1 + IntKind.i64.wrap (y.2.2.2.1.1 * r9.1)), r10.1)) fun (r12 : ((Int × (Int × (List Int))) × (Int × Bool))) => (bif r12.2.2 then (Option.bind (madeG (r12.2.1, r11.1, sub y.2.2.1 0 y.1.2.2.1)) fun (r13 : Bool) => (bif r13 then (some (Sum.inl (((IntKind.i64.wrap (y.1.1 - 1), (r11.2, (y.1.2.2.1, (IntKind.i64.wrap (y.1.2.2.2.1 + 1), ())))), (y.2.1, (y.2.2.1, ((y.2.2.2.1.1, (y.2.2.2.1.2.1, (y.2.2.2.1.2.2.1, ()))), ((y.2.2.2.2.1.1, (y.2.2.2.2.1.2.1, (y.2.2.2.2.1.2.2.1, ()))), ((r12.1.1, (r12.1.2.1, (List.length r12.1.2.2, ()))), (y.2.2.2.2.2.2.1, (r12.1.2.2, ()))))))))))) else (some (Sum.inl (((IntKind.i64.wrap (y.1.1 - 1), (r11.2, (y.1.2.2.1, (y.1.2.2.2.1, ())))), (y.2.1, (y.2.2.1, ((y.2.2.2.1.1, (y.2.2.2.1.2.1, (y.2.2.2.1.2.2.1, ()))), ((y.2.2.2.2.1.1, (y.2.2.2.2.1.2.1, (y.2.2.2.2.1.2.2.1, ()))), ((y.2.2.2.2.2.1.1, (y.2.2.2.2.2.1.2.1, (y.2.2.2.2.2.1.2.2.1, ()))), (y.2.2.2.2.2.2.1, (y.2.2.2.2.2.2.2.1, ()))))))))))))) else (some (Sum.inl (((IntKind.i64.wrap (y.1.1 - 1), (r11.2, (y.1.2.2.1, (y.1.2.2.2.1, ())))), (y.2.1, (y.2.2.1, ((y.2.2.2.1.1, (y.2.2.2.1.2.1, (y.2.2.2.1.2.2.1, ()))), ((y.2.2.2.2.1.1, (y.2.2.2.2.1.2.1, (y.2.2.2.2.1.2.2.1, ()))), ((y.2.2.2.2.2.1.1, (y.2.2.2.2.2.1.2.1, (y.2.2.2.2.2.1.2.2.1, ()))), (y.2.2.2.2.2.2.1, (y.2.2.2.2.2.2.2.1, ()))))))))))))))))) else (some (Sum.inr (((y.1.2.1, (y.1.2.2.2.1, ())), (y.2.1, (y.2.2.1, ((y.2.2.2.2.1.1, (y.2.2.2.2.1.2.1, (y.2.2.2.2.1.2.2.1, ()))), ((y.2.2.2.2.2.1.1, (y.2.2.2.2.2.1.2.1, (y.2.2.2.2.2.1.2.2.1, ()))), (y.2.2.2.2.2.2.1, (y.2.2.2.2.2.2.2.1, ()))))))))))
noncomputable def ss_SomeS : List (Nat × FSpec) := [(76, vhPS), (77, withinS), (78, seedS), (79, ownS), (80, draw2S), (81, hopS), (82, madeS)]
theorem ssOk_SomeS : FTolds Try.prog ss_SomeS := ⟨s_VHS, s_l00In, s_l05Seed, s_l05Own, s_l05Draw, s_hop, s_made, trivial⟩
noncomputable def Γ_SomeS : Ctx := ctxOf Try.prog tys fs ss_SomeS loops_SomeS
noncomputable def d_SomeS (w g : Int) (l : LI) (n s : Int) (c : LI) : Option (((Int × (Int × (List Int))) × (Int × (Int × Bool)))) := Option.bind (vhPG (w, g, sub l 0 (List.length l))) fun (r0 : Bool) => (bif !r0 then (some (((0, (0, [])), (0, (0, false))))) else (Option.bind (withinG (n, 0, 500)) fun (r1 : Bool) => (bif !r1 then (some (((0, (0, [])), (0, (0, false))))) else (Option.bind (seedG s) fun (r2 : Bool) => (bif !r2 then (some (((0, (0, [])), (0, (0, false))))) else (bif decide (((List.length c : Nat) : Int) > 8) then (some (((0, (0, [])), (0, (0, false))))) else (Option.bind (iter B_SomeS_1 bigN (((n, (s, (List.length c, (((List.length c : Nat) : Int), (0, ()))))), (l, (c, ((w, (g, (List.length l, ()))), ((0, (0, (0, ()))), ([], ())))))))) fun (r3 : (((Int × (Int × (Bool × Unit))) × ((List Int) × ((List Int) × ((Int × (Int × (Nat × Unit))) × ((List Int) × Unit))))) ⊕ ((Int × (Int × (Nat × Unit))) × ((List Int) × ((List Int) × ((Int × (Int × (Nat × Unit))) × ((Int × (Int × (Nat × Unit))) × ((List Int) × Unit)))))))) => (match r3 with | .inl x5 => (some (((x5.2.2.2.1.1, (x5.2.2.2.1.2.1, sub x5.2.2.2.2.1 0 x5.2.2.2.1.2.2.1)), (x5.1.1, (x5.1.2.1, x5.1.2.2.1))))) | .inr x5 => (Option.bind (ownG (x5.2.2.2.1.1, x5.2.2.2.1.2.1, sub x5.2.1 0 x5.2.2.2.1.2.2.1)) fun (r6 : (Int × (Int × (List Int)))) => (Option.bind (iter B_SomeS_2 bigN (((x5.1.1, (x5.1.2.1, (x5.1.2.2.1, (0, ())))), (x5.2.1, (x5.2.2.1, ((x5.2.2.2.1.1, (x5.2.2.2.1.2.1, (x5.2.2.2.1.2.2.1, ()))), ((x5.2.2.2.2.1.1, (x5.2.2.2.2.1.2.1, (x5.2.2.2.2.1.2.2.1, ()))), ((r6.1, (r6.2.1, (List.length r6.2.2, ()))), (x5.2.2.2.2.2.1, (r6.2.2, ())))))))))) fun (r7 : ((Int × (Int × Unit)) × ((List Int) × ((List Int) × ((Int × (Int × (Nat × Unit))) × ((Int × (Int × (Nat × Unit))) × ((List Int) × ((List Int) × Unit)))))))) => (some (((r7.2.2.2.2.1.1, (r7.2.2.2.2.1.2.1, sub r7.2.2.2.2.2.2.1 0 r7.2.2.2.2.1.2.2.1)), (r7.1.2.1, (r7.1.1, true)))))))))))))))
theorem t_SomeS (w g : Int) (l : LI) (n s : Int) (c : LI) : (fnT Γ_SomeS 10 25 [HD, I64, I64, L64] [HD, I64, I64, .bool] ((w, g, l), n, s, c)).den = d_SomeS w g l n s c := by kernel_rfl
abbrev ssS (w g : Int) (c l : LI) (n s : Int) (r : Nat) : S_SomeS_2 := ((n - (r : Int), ((stN w g c l s r).2.2, (c.length, ((stN w g c l s r).2.1, ())))), (l, (c, ((w, (g, (l.length, ()))), (hzz, ((w, (g, (l.length, ()))), ([], ((stN w g c l s r).1, ()))))))))
theorem loop_SomeS {w g : Int} {c l : LI} {n s : Int} (h0 : 0 ≤ n) (h1 : n ≤ 500) (hk : okH (w, g, l)) (hs : sdOk s) (hc : c.length ≤ 8) : iter B_SomeS_2 bigN (ssS w g c l n s 0) = some (((stN w g c l s n.toNat).2.2, ((stN w g c l s n.toNat).2.1, ())), (l, (c, (hzz, ((w, (g, (l.length, ()))), ([], ((stN w g c l s n.toNat).1, ()))))))) :=
  iter_for (B := B_SomeS_2) (fun r => ssS w g c l n s r) 0 n.toNat _ (Nat.zero_le _) (by omega) (fun r _ hr => by
    obtain ⟨ok, hm, hsd⟩ := stN_ok (c := c) hk hs r
    have hlen := stN_len (c := c) hk hs r
    obtain ⟨z, hl, ha⟩ := ok
    have z : szOk w g := z
    have wg := wg_b z
    have zz := z
    obtain ⟨z1, z2, z3, z4⟩ := zz
    have e1 : decide (n - (r : Int) > 0) = true := decide_eq_true (by omega)
    have st : stN w g c l s (r + 1) = bif tkF w g c (stN w g c l s r).1 (stN w g c l s r).2.2 then ((hpF w g (stN w g c l s r).1 (stN w g c l s r).2.2).1.2.2, (stN w g c l s r).2.1 + 1, nxt4 (stN w g c l s r).2.2) else ((stN w g c l s r).1, (stN w g c l s r).2.1, nxt4 (stN w g c l s r).2.2) := rfl
    unfold ssS
    rw [st]
    generalize stN w g c l s r = q at *
    obtain ⟨cur, mk, sd⟩ := q
    have hl : (cur.length : Int) = w * g := hl
    have hlen : cur.length = l.length := hlen
    have okc : okH (w, g, cur) := ⟨z, hl, ha⟩
    have hsd : sdOk sd := hsd
    have hm : 0 ≤ mk ∧ mk ≤ (r : Int) := hm
    have k1 : draw2G (sd, w) = some (nextF sd / 65536 % w, nextF sd) := if_pos ⟨hsd, by show 1 ≤ w; omega⟩
    have k2 : draw2G (nextF sd, g) = some (nextF (nextF sd) / 65536 % g, nextF (nextF sd)) := if_pos ⟨next_ok _, by show 1 ≤ g; omega⟩
    have k3 : draw2G (nextF (nextF sd), 4) = some (nextF (nextF (nextF sd)) / 65536 % 4, nextF (nextF (nextF sd))) := if_pos ⟨next_ok _, by show (1 : Int) ≤ 4; decide⟩
    have k4 : draw2G (nextF (nextF (nextF sd)), 32768) = some (nxt4 sd / 65536 % 32768, nxt4 sd) := if_pos ⟨next_ok _, by show (1 : Int) ≤ 32768; decide⟩
    have x0 := Int.emod_nonneg (nextF sd / 65536) (show w ≠ 0 by omega)
    have x1 := Int.emod_lt_of_pos (nextF sd / 65536) (show 0 < w by omega)
    have y0 := Int.emod_nonneg (nextF (nextF sd) / 65536) (show g ≠ 0 by omega)
    have y1 := Int.emod_lt_of_pos (nextF (nextF sd) / 65536) (show 0 < g by omega)
    have z : szOk w g := z
    obtain ⟨c1, c2, c3, c4, c5⟩ := cell_xy (w := w) (g := g) z x0 x1 y0 y1
    have m1 : 0 ≤ w * (nextF (nextF sd) / 65536 % g) := Int.mul_nonneg (by omega) y0
    have k5 : hopG ((w, g, cur), nextF sd / 65536 % w + w * (nextF (nextF sd) / 65536 % g), nextF (nextF (nextF sd)) / 65536 % 4) = some (hpF w g cur sd) := if_pos ⟨okc, c2, by show nextF sd / 65536 % w + w * (nextF (nextF sd) / 65536 % g) < (cur.length : Int); omega, by show 0 ≤ nextF (nextF (nextF sd)) / 65536 % 4; omega, by show nextF (nextF (nextF sd)) / 65536 % 4 < 4; omega⟩
    have k6 : madeG ((hpF w g cur sd).2.1, nxt4 sd / 65536 % 32768, c) = some (madeF (hpF w g cur sd).2.1 (nxt4 sd / 65536 % 32768) c) := if_pos ⟨by show (hpF w g cur sd).2.1 ≤ 2 ^ 40; have := hop_cost okc (nextF sd / 65536 % w + w * (nextF (nextF sd) / 65536 % g)) (nextF (nextF (nextF sd)) / 65536 % 4); unfold hpF; omega, hc⟩
    have hcur : sub cur 0 l.length = cur := sub_len hlen
    unfold B_SomeS_2
    simp only [e1, cond_true, k1, k2, k3, k4, Option.bind_some, hcur, sub_all, wrap64 (n := w * (nextF (nextF sd) / 65536 % g)) (by omega) (by omega), wrap64 (n := nextF sd / 65536 % w + w * (nextF (nextF sd) / 65536 % g)) (by omega) (by omega), k5, k6, show n - (r : Int) - 1 = n - ((r + 1 : Nat) : Int) by omega, wrap64 (n := n - ((r + 1 : Nat) : Int)) (by omega) (by omega), wrap64 (n := mk + 1) (by omega) (by omega)]
    rw [show tkF w g c cur sd = ((hpF w g cur sd).2.2 && madeF (hpF w g cur sd).2.1 (nxt4 sd / 65536 % 32768) c) from rfl]
    cases ho : (hpF w g cur sd).2.2 with
    | false => rfl
    | true =>
      obtain ⟨e, okn⟩ := hop_true (w := w) (g := g) (l := cur) ho
      have e : (hpF w g cur sd).1 = (w, g, hopL w g cur (nextF sd / 65536 % w + w * (nextF (nextF sd) / 65536 % g)) (nextF (nextF (nextF sd)) / 65536 % 4)) := e
      cases hmd : madeF (hpF w g cur sd).2.1 (nxt4 sd / 65536 % 32768) c with
      | false => rfl
      | true =>
        simp only [cond_true, Bool.and_self, e, hopL_len, hlen]) (by
    have e1 : decide (n - (n.toNat : Int) > 0) = false := decide_eq_false (by omega)
    unfold ssS B_SomeS_2
    simp only [e1, cond_false])
theorem p_SomeS (w g : Int) (l : LI) (n s : Int) (c : LI) (r : ((Int × (Int × (List Int))) × (Int × (Int × Bool)))) (h : someG ((w, g, l), n, s, c) = some r) : d_SomeS w g l n s c = some r := by
  obtain ⟨⟨hb, hbc⟩, rfl⟩ := if_some (show (if l.length < 2 ^ 62 ∧ c.length < 2 ^ 62 then some (someF w g l n s c) else none) = some r from h)
  have k1 : vhPG (w, g, l) = some (vhB (w, g, l)) := if_pos hb
  unfold d_SomeS someF withinG seedG
  simp only [sub_all, k1, Option.bind_some]
  by_cases c1 : okH (w, g, l)
  case neg =>
    rw [show vhB (w, g, l) = false from Bool.eq_false_iff.2 fun h => c1 (vh_ok.1 h), decide_eq_false c1]
    rfl
  rw [vh_ok.2 c1, decide_eq_true c1, Bool.true_and]
  cases c2 : (decide (0 ≤ n) && decide (n ≤ 500)) with
  | false => rfl
  | true =>
  rw [Bool.true_and]
  cases c3 : (decide (0 ≤ s) && decide (s ≤ 2147483647)) with
  | false => rfl
  | true =>
  rw [Bool.true_and]
  by_cases c4 : c.length ≤ 8
  case neg =>
    rw [decide_eq_false c4, decide_eq_true (show (c.length : Int) > 8 by omega)]
    rfl
  rw [decide_eq_true c4, Bool.true_and, decide_eq_false (show ¬ (c.length : Int) > 8 by omega)]
  rw [Bool.and_eq_true, decide_eq_true_iff, decide_eq_true_iff] at c2 c3
  simp only [Bool.not_true, cond_false]
  have key := iter_find' (B := B_SomeS_1) (fun i => ((n, (s, (c.length, ((c.length : Int), ((i : Int), ()))))), (l, (c, ((w, (g, (l.length, ()))), (hzz, ([], ()))))))) 0 c.length (fun i => if (decide (0 ≤ c.getD i 0) && decide (c.getD i 0 ≤ 32768)) = true then none else some (.inl ((0, (0, (false, ()))), (l, (c, (hzz, ([], ()))))))) (.inr ((n, (s, (c.length, ()))), (l, (c, ((w, (g, (l.length, ()))), (hzz, ([], ()))))))) (Nat.zero_le _) hbc (fun i _ hi => by
    unfold B_SomeS_1 withinG
    simp only [ltT hi, inB_of hi, inc64 hi hbc, cond_true, Int.toNat_natCast, Nat.zero_add, Option.bind_some]
    by_cases e : (decide (0 ≤ c.getD i 0) && decide (c.getD i 0 ≤ 32768)) = true
    · rw [if_pos e, e]; rfl
    · rw [if_neg e, Bool.eq_false_iff.2 e]; rfl) (by
    unfold B_SomeS_1
    simp only [ltF, cond_false])
  refine (congrArg (fun z => Option.bind z _) (show iter B_SomeS_1 bigN _ = _ from key)).trans ?_
  rcases firstOf_const (fun i => (decide (0 ≤ c.getD i 0) && decide (c.getD i 0 ≤ 32768))) (.inl ((0, (0, (false, ()))), (l, (c, (hzz, ([], ()))))) : R_SomeS_1) (c.length - 0) 0 with ⟨q, hall⟩ | ⟨q, j, _, hj, hbad⟩
  · rw [q, are_yes (p := 0) (q := 32768) (l := c) (fun i hi => hall i (Nat.zero_le _) (by omega))]
    have wg : 4 ≤ w * g ∧ w * g ≤ 256 := wg_b c1.1
    have hl : (l.length : Int) = w * g := c1.2.1
    have k2 : ownG (w, g, l) = some (w, g, l) := if_pos (by show l.length ≤ 2 ^ 30; omega)
    have k3 := loop_SomeS (c := c) c2.1 c2.2 c1 c3 c4
    unfold ssS at k3
    rw [Int.natCast_zero, Int.sub_zero] at k3
    simp only [Option.getD_none, Option.bind_some, sub_all, k2]
    refine (congrArg (fun z => Option.bind z _) (show iter B_SomeS_2 bigN _ = _ from k3)).trans ?_
    simp only [Option.bind_some, sub_len (stN_len (c := c) c1 c3 n.toNat), cond_true]
  · rw [q, are_no (p := 0) (q := 32768) (i := j) (by omega) hbad]
    rfl
theorem s_SomeS : FTold Try.prog 25 someS := walkedF (fs := fs) (ss := ss_SomeS) (loop := loops_SomeS) tysOk mixed fnsOk ssOk_SomeS 10 25 [HD, I64, I64, L64] [HD, I64, I64, .bool] rfl _ fun ((w, g, l), n, s, c) r h => (t_SomeS w g l n s c).trans (p_SomeS w g l n s c r h)
def L_SomeI_1 : LSpec := ⟨[3, 4, 6, 8, 12, 46, 47], ⟨Shs.at 93 [(3, (.slc 3)), (4, (.ptr 2146435456 0 0)), (6, (.ptr 2146435457 0 0)), (8, (.ptr 2146435458 0 0)), (12, (.int IntKind.i64)), (46, (.int IntKind.i64)), (47, (.int IntKind.i64))], [(2, (.arr false (EK.int IntKind.i64))), (3, (.arr false (EK.int IntKind.i64))), (2146435456, (.vals true (.cons (.int IntKind.i64) (.cons (.int IntKind.i64) (.cons (.slc 2146435459) .nil))))), (2146435457, (.vals true (.cons (.int IntKind.i64) .nil))), (2146435458, (.vals true (.cons (.int IntKind.i64) (.cons (.int IntKind.i64) (.cons (.slc 2146435460) .nil))))), (2146435459, (.arr true (EK.int IntKind.i64))), (2146435460, (.arr true (EK.int IntKind.i64)))]⟩, [⟨.ext 0, [4, 6, 8, 12], ⟨Shs.at 93 [(4, (.ptr 2146435456 0 0)), (6, (.ptr 2146435457 0 0)), (8, (.ptr 2146435458 0 0)), (12, (.int IntKind.i64))], [(2, (.arr false (EK.int IntKind.i64))), (3, (.arr false (EK.int IntKind.i64))), (2146435456, (.vals true (.cons (.int IntKind.i64) (.cons (.int IntKind.i64) (.cons (.slc 2146435459) .nil))))), (2146435457, (.vals true (.cons (.int IntKind.i64) .nil))), (2146435458, (.vals true (.cons (.int IntKind.i64) (.cons (.int IntKind.i64) (.cons (.slc 2146435460) .nil))))), (2146435459, (.arr true (EK.int IntKind.i64))), (2146435460, (.arr true (EK.int IntKind.i64)))]⟩⟩], fun _ => bigN⟩
def loops_SomeI (f k n : Nat) : Option LSpec := bif (Nat.beq f 27 && Nat.beq k 6 && Nat.beq n 1) then some L_SomeI_1 else none
abbrev S_SomeI_1 : Type := ((Nat × (Int × (Int × (Int × Unit)))) × ((List Int) × ((List Int) × ((Int × (Int × (Nat × Unit))) × ((Int × Unit) × ((Int × (Int × (Nat × Unit))) × ((List Int) × ((List Int) × Unit))))))))
abbrev R_SomeI_1 : Type := ((Int × Unit) × ((List Int) × ((List Int) × ((Int × (Int × (Nat × Unit))) × ((Int × Unit) × ((Int × (Int × (Nat × Unit))) × ((List Int) × ((List Int) × Unit))))))))
noncomputable def B_SomeI_1 (y : S_SomeI_1) : Option (S_SomeI_1 ⊕ R_SomeI_1) := bif decide (y.1.2.2.2.1 < y.1.2.2.1) then (Option.bind (draw1G y.2.2.2.2.1.1) fun (r6 : (Int × Int)) => (bif y.2.2.2.1.1 != 0 then (Option.bind (draw1G r6.1) fun (r7 : (Int × Int)) => (bif y.2.2.2.1.2.1 != 0 then (Option.bind (draw1G r7.1) fun (r8 : (Int × Int)) => (bif 4 != 0 then (Option.bind (draw1G r8.1) fun (r9 : (Int × Int)) => (bif 32768 != 0 then (Option.bind (hopTG ((y.2.2.2.1.1, y.2.2.2.1.2.1, sub y.2.2.2.2.2.2.1 0 y.2.2.2.1.2.2.1), Int.tmod r6.2 y.2.2.2.1.1, Int.tmod r7.2 y.2.2.2.1.2.1, Int.tmod r8.2 4)) fun (r10 : ((Int × (Int × (List Int))) × (Int × Bool))) => (bif r10.2.2 then (bif decide (r10.2.1 ≤ 0) then (some (Sum.inl (((y.1.1, (IntKind.i64.wrap (y.1.2.1 + 1), (y.1.2.2.1, (IntKind.i64.wrap (y.1.2.2.2.1 + 1), ())))), (y.2.1, (y.2.2.1, ((r10.1.1, (r10.1.2.1, (List.length r10.1.2.2, ()))), ((r9.1, ()), ((y.2.2.2.2.2.1.1, (y.2.2.2.2.2.1.2.1, (y.2.2.2.2.2.1.2.2.1, ()))), (r10.1.2.2, (y.2.2.2.2.2.2.2.1, ()))))))))))) else (bif decide (r10.2.1 ≤ (y.1.1 : Int)) then (bif inB (IntKind.i64.wrap (r10.2.1 - 1)) y.1.1 then (bif decide (Int.tmod r9.2 32768 < List.getD y.2.2.1 (0 + (IntKind.i64.wrap (r10.2.1 - 1)).toNat) (0 : Int)) then (some (Sum.inl (((y.1.1, (IntKind.i64.wrap (y.1.2.1 + 1), (y.1.2.2.1, (IntKind.i64.wrap (y.1.2.2.2.1 + 1), ())))), (y.2.1, (y.2.2.1, ((r10.1.1, (r10.1.2.1, (List.length r10.1.2.2, ()))), ((r9.1, ()), ((y.2.2.2.2.2.1.1, (y.2.2.2.2.2.1.2.1, (y.2.2.2.2.2.1.2.2.1, ()))), (r10.1.2.2, (y.2.2.2.2.2.2.2.1, ()))))))))))) else (some (Sum.inl (((y.1.1, (y.1.2.1, (y.1.2.2.1, (IntKind.i64.wrap (y.1.2.2.2.1 + 1), ())))), (y.2.1, (y.2.2.1, ((y.2.2.2.1.1, (y.2.2.2.1.2.1, (y.2.2.2.1.2.2.1, ()))), ((r9.1, ()), ((y.2.2.2.2.2.1.1, (y.2.2.2.2.2.1.2.1, (y.2.2.2.2.2.1.2.2.1, ()))), (y.2.2.2.2.2.2.1, (y.2.2.2.2.2.2.2.1, ())))))))))))) else (none)) else (some (Sum.inl (((y.1.1, (y.1.2.1, (y.1.2.2.1, (IntKind.i64.wrap (y.1.2.2.2.1 + 1), ())))), (y.2.1, (y.2.2.1, ((y.2.2.2.1.1, (y.2.2.2.1.2.1, (y.2.2.2.1.2.2.1, ()))), ((r9.1, ()), ((y.2.2.2.2.2.1.1, (y.2.2.2.2.2.1.2.1, (y.2.2.2.2.2.1.2.2.1, ()))), (y.2.2.2.2.2.2.1, (y.2.2.2.2.2.2.2.1, ()))))))))))))) else (some (Sum.inl (((y.1.1, (y.1.2.1, (y.1.2.2.1, (IntKind.i64.wrap (y.1.2.2.2.1 + 1), ())))), (y.2.1, (y.2.2.1, ((y.2.2.2.1.1, (y.2.2.2.1.2.1, (y.2.2.2.1.2.2.1, ()))), ((r9.1, ()), ((y.2.2.2.2.2.1.1, (y.2.2.2.2.2.1.2.1, (y.2.2.2.2.2.1.2.2.1, ()))), (y.2.2.2.2.2.2.1, (y.2.2.2.2.2.2.2.1, ()))))))))))))) else (none))) else (none))) else (none))) else (none))) else (some (Sum.inr (((y.1.2.1, ()), (y.2.1, (y.2.2.1, ((y.2.2.2.1.1, (y.2.2.2.1.2.1, (y.2.2.2.1.2.2.1, ()))), ((y.2.2.2.2.1.1, ()), ((y.2.2.2.2.2.1.1, (y.2.2.2.2.2.1.2.1, (y.2.2.2.2.2.1.2.2.1, ()))), (y.2.2.2.2.2.2.1, (y.2.2.2.2.2.2.2.1, ())))))))))))
noncomputable def ss_SomeI : List (Nat × FSpec) := [(83, vhS), (84, withinS), (85, seedS), (86, areS), (87, clonedS), (148, draw1S), (89, hopTS)]
theorem ssOk_SomeI : FTolds Try.prog ss_SomeI := ⟨s_VHI, s_within, s_isSeed, s_areWithin, s_cloned, s_draw, s_HopTo, trivial⟩
noncomputable def Γ_SomeI : Ctx := ctxOf Try.prog tys fs ss_SomeI loops_SomeI
noncomputable def d_SomeI (w g : Int) (l : LI) (n s : Int) (c : LI) : Option (((Int × (Int × (List Int))) × (Int × (Int × Bool)))) := Option.bind (vhG (w, g, sub l 0 (List.length l))) fun (r0 : Bool) => (bif !r0 then (some (((0, (0, [])), (0, (0, false))))) else (Option.bind (withinG (n, 0, 500)) fun (r1 : Bool) => (bif !r1 then (some (((0, (0, [])), (0, (0, false))))) else (Option.bind (seedG s) fun (r2 : Bool) => (bif !r2 then (some (((0, (0, [])), (0, (0, false))))) else (bif decide (((List.length c : Nat) : Int) > 8) then (some (((0, (0, [])), (0, (0, false))))) else (Option.bind (areG (0, 32768, sub c 0 (List.length c))) fun (r3 : Bool) => (bif !r3 then (some (((0, (0, [])), (0, (0, false))))) else (Option.bind (clonedG (w, g, sub l 0 (List.length l))) fun (r4 : (Int × (Int × (List Int)))) => (Option.bind (iter B_SomeI_1 bigN (((List.length c, (0, (n, (0, ())))), (l, (c, ((r4.1, (r4.2.1, (List.length r4.2.2, ()))), ((s, ()), ((0, (0, (0, ()))), (r4.2.2, ([], ())))))))))) fun (r5 : ((Int × Unit) × ((List Int) × ((List Int) × ((Int × (Int × (Nat × Unit))) × ((Int × Unit) × ((Int × (Int × (Nat × Unit))) × ((List Int) × ((List Int) × Unit))))))))) => (some (((r5.2.2.2.1.1, (r5.2.2.2.1.2.1, sub r5.2.2.2.2.2.2.1 0 r5.2.2.2.1.2.2.1)), (r5.1.1, (r5.2.2.2.2.1.1, true)))))))))))))))
theorem t_SomeI (w g : Int) (l : LI) (n s : Int) (c : LI) : (fnT Γ_SomeI 10 27 [HD, I64, I64, L64] [HD, I64, I64, .bool] ((w, g, l), n, s, c)).den = d_SomeI w g l n s c := by kernel_rfl
abbrev siS (w g : Int) (c l : LI) (n s : Int) (r : Nat) : S_SomeI_1 := ((c.length, ((stN w g c l s r).2.1, (n, ((r : Int), ())))), (l, (c, ((w, (g, (l.length, ()))), (((stN w g c l s r).2.2, ()), (hzz, ((stN w g c l s r).1, ([], ()))))))))
theorem loop_SomeI {w g : Int} {c l : LI} {n s : Int} (h0 : 0 ≤ n) (h1 : n ≤ 500) (hk : okH (w, g, l)) (hs : sdOk s) (hc : c.length ≤ 8) : iter B_SomeI_1 bigN (siS w g c l n s 0) = some (((stN w g c l s n.toNat).2.1, ()), (l, (c, ((w, (g, (l.length, ()))), (((stN w g c l s n.toNat).2.2, ()), (hzz, ((stN w g c l s n.toNat).1, ([], ())))))))) :=
  iter_for (B := B_SomeI_1) (fun r => siS w g c l n s r) 0 n.toNat _ (Nat.zero_le _) (by omega) (fun r _ hr => by
    obtain ⟨ok, hm, hsd⟩ := stN_ok (c := c) hk hs r
    have hlen := stN_len (c := c) hk hs r
    obtain ⟨z, hl, ha⟩ := ok
    have z : szOk w g := z
    have wg := wg_b z
    have zz := z
    obtain ⟨z1, z2, z3, z4⟩ := zz
    have e1 : decide ((r : Int) < n) = true := decide_eq_true (by omega)
    have st : stN w g c l s (r + 1) = bif tkF w g c (stN w g c l s r).1 (stN w g c l s r).2.2 then ((hpF w g (stN w g c l s r).1 (stN w g c l s r).2.2).1.2.2, (stN w g c l s r).2.1 + 1, nxt4 (stN w g c l s r).2.2) else ((stN w g c l s r).1, (stN w g c l s r).2.1, nxt4 (stN w g c l s r).2.2) := rfl
    unfold siS
    rw [st]
    generalize stN w g c l s r = q at *
    obtain ⟨cur, mk, sd⟩ := q
    have hl : (cur.length : Int) = w * g := hl
    have hlen : cur.length = l.length := hlen
    have okc : okH (w, g, cur) := ⟨z, hl, ha⟩
    have hsd : sdOk sd := hsd
    have hm : 0 ≤ mk ∧ mk ≤ (r : Int) := hm
    have n1 := next_ok sd
    have n2 := next_ok (nextF sd)
    have n3 := next_ok (nextF (nextF sd))
    have n4 := next_ok (nextF (nextF (nextF sd)))
    have k1 : draw1G sd = some (nextF sd, nextF sd / 65536) := if_pos hsd
    have k2 : draw1G (nextF sd) = some (nextF (nextF sd), nextF (nextF sd) / 65536) := if_pos n1
    have k3 : draw1G (nextF (nextF sd)) = some (nextF (nextF (nextF sd)), nextF (nextF (nextF sd)) / 65536) := if_pos n2
    have k4 : draw1G (nextF (nextF (nextF sd))) = some (nxt4 sd, nxt4 sd / 65536) := if_pos n3
    unfold sdOk at n1 n2 n3 n4
    have n4 : 0 ≤ nxt4 sd ∧ nxt4 sd ≤ 2147483647 := n4
    have x0 := Int.emod_nonneg (nextF sd / 65536) (show w ≠ 0 by omega)
    have x1 := Int.emod_lt_of_pos (nextF sd / 65536) (show 0 < w by omega)
    have y0 := Int.emod_nonneg (nextF (nextF sd) / 65536) (show g ≠ 0 by omega)
    have y1 := Int.emod_lt_of_pos (nextF (nextF sd) / 65536) (show 0 < g by omega)
    have k5 : hopTG ((w, g, cur), nextF sd / 65536 % w, nextF (nextF sd) / 65536 % g, nextF (nextF (nextF sd)) / 65536 % 4) = some (hpF w g cur sd) := if_pos ⟨okc, x0, x1, y0, y1, by show 0 ≤ nextF (nextF (nextF sd)) / 65536 % 4; omega, by show nextF (nextF (nextF sd)) / 65536 % 4 < 4; omega⟩
    have hco : (hpF w g cur sd).2.1 ≤ 512000 := hop_cost okc _ _
    have hcur : sub cur 0 l.length = cur := sub_len hlen
    have ew : (w != 0) = true := by simp; omega
    have eg : (g != 0) = true := by simp; omega
    unfold B_SomeI_1
    simp only [e1, cond_true, k1, k2, k3, k4, Option.bind_some, ew, eg, show ((4 : Int) != 0) = true from rfl, show ((32768 : Int) != 0) = true from rfl, hcur, Int.tmod_eq_emod_of_nonneg (show 0 ≤ nextF sd / 65536 by omega), Int.tmod_eq_emod_of_nonneg (show 0 ≤ nextF (nextF sd) / 65536 by omega), Int.tmod_eq_emod_of_nonneg (show 0 ≤ nextF (nextF (nextF sd)) / 65536 by omega), Int.tmod_eq_emod_of_nonneg (show 0 ≤ nxt4 sd / 65536 by omega), k5, wrap64 (n := (r : Int) + 1) (by omega) (by omega), wrap64 (n := mk + 1) (by omega) (by omega)]
    rw [show tkF w g c cur sd = ((hpF w g cur sd).2.2 && madeF (hpF w g cur sd).2.1 (nxt4 sd / 65536 % 32768) c) from rfl]
    cases ho : (hpF w g cur sd).2.2 with
    | false => rfl
    | true =>
      obtain ⟨e, okn⟩ := hop_true (w := w) (g := g) (l := cur) ho
      have e : (hpF w g cur sd).1 = (w, g, hopL w g cur (nextF sd / 65536 % w + w * (nextF (nextF sd) / 65536 % g)) (nextF (nextF (nextF sd)) / 65536 % 4)) := e
      unfold madeF
      by_cases a1 : (hpF w g cur sd).2.1 ≤ 0
      · rw [decide_eq_true a1]
        simp only [cond_true, Bool.and_self, e, hopL_len, hlen]
        rfl
      · rw [decide_eq_false a1]
        by_cases a2 : (hpF w g cur sd).2.1 ≤ (c.length : Int)
        · rw [decide_eq_true a2]
          simp only [cond_true, cond_false, wrap64 (n := (hpF w g cur sd).2.1 - 1) (by omega) (by omega), inB_int (show 0 ≤ (hpF w g cur sd).2.1 - 1 by omega) (show (hpF w g cur sd).2.1 - 1 < c.length by omega), Nat.zero_add]
          cases decide (nxt4 sd / 65536 % 32768 < c.getD ((hpF w g cur sd).2.1 - 1).toNat 0) with
          | true =>
            simp only [cond_true, Bool.and_self, e, hopL_len, hlen]
            rfl
          | false => rfl
        · rw [decide_eq_false a2]; rfl) (by
    have e1 : decide ((n.toNat : Int) < n) = false := decide_eq_false (by omega)
    unfold siS B_SomeI_1
    simp only [e1, cond_false])
theorem p_SomeI (w g : Int) (l : LI) (n s : Int) (c : LI) (r : ((Int × (Int × (List Int))) × (Int × (Int × Bool)))) (h : someG ((w, g, l), n, s, c) = some r) : d_SomeI w g l n s c = some r := by
  obtain ⟨⟨hb, hbc⟩, rfl⟩ := if_some (show (if l.length < 2 ^ 62 ∧ c.length < 2 ^ 62 then some (someF w g l n s c) else none) = some r from h)
  have k1 : vhG (w, g, l) = some (vhB (w, g, l)) := if_pos hb
  have ka : areG (0, 32768, c) = some (areB 0 32768 c) := if_pos hbc
  unfold d_SomeI someF withinG seedG
  simp only [sub_all, k1, Option.bind_some, ka]
  by_cases c1 : okH (w, g, l)
  case neg =>
    rw [show vhB (w, g, l) = false from Bool.eq_false_iff.2 fun h => c1 (vh_ok.1 h), decide_eq_false c1]
    rfl
  rw [vh_ok.2 c1, decide_eq_true c1, Bool.true_and]
  cases c2 : (decide (0 ≤ n) && decide (n ≤ 500)) with
  | false => rfl
  | true =>
  rw [Bool.true_and]
  cases c3 : (decide (0 ≤ s) && decide (s ≤ 2147483647)) with
  | false => rfl
  | true =>
  rw [Bool.true_and]
  by_cases c4 : c.length ≤ 8
  case neg =>
    rw [decide_eq_false c4, decide_eq_true (show (c.length : Int) > 8 by omega)]
    rfl
  rw [decide_eq_true c4, Bool.true_and, decide_eq_false (show ¬ (c.length : Int) > 8 by omega)]
  cases c5 : areB 0 32768 c with
  | false => rfl
  | true =>
  rw [Bool.and_eq_true, decide_eq_true_iff, decide_eq_true_iff] at c2 c3
  have wg : 4 ≤ w * g ∧ w * g ≤ 256 := wg_b c1.1
  have hl : (l.length : Int) = w * g := c1.2.1
  have k2 : clonedG (w, g, l) = some (w, g, l) := if_pos ⟨by show 0 < l.length; omega, by show l.length ≤ 2 ^ 30; omega⟩
  have k3 := loop_SomeI (c := c) c2.1 c2.2 c1 c3 c4
  unfold siS at k3
  simp only [Bool.not_true, cond_false, k2, Option.bind_some]
  refine (congrArg (fun z => Option.bind z _) (show iter B_SomeI_1 bigN _ = _ from k3)).trans ?_
  simp only [Option.bind_some, sub_len (stN_len (c := c) c1 c3 n.toNat), cond_true]
theorem s_SomeI : FTold Try.prog 27 someS := walkedF (fs := fs) (ss := ss_SomeI) (loop := loops_SomeI) tysOk mixed fnsOk ssOk_SomeI 10 27 [HD, I64, I64, L64] [HD, I64, I64, .bool] rfl _ fun ((w, g, l), n, s, c) r h => (t_SomeI w g l n s c).trans (p_SomeI w g l n s c r h)
end Go.Proofs.Ytjggcekliaalgaa
