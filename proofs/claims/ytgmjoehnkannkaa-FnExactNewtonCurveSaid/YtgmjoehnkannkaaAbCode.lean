/-
  Code, loops, calls: the machine does what the evaluator tells.
-/
import Derived.Test.YtgmjoehnkannkaaAbNorm
namespace Go.Ab
open Go.RowKit

def exOf : Ex → Exit
  | .nrm => .normal
  | .ext i => .exit i
  | .ret => .ret

/-- Behind some code of a function whose caller holds what β0 tells. -/
def After0 (β0 : Bt) (w : World) (base : Nat) (s : St) (a : Act) (w' : World) : Prop := ∃ β', β0.le β' ∧ SR β' base s a w' ∧ Below base w w'

def codeOk : Code → Bool
  | .region _ ops _ => backFrom 0 ops.toList && ops.toList.all operOk
  | .seq a b => codeOk a && codeOk b
  | .cond c a b => opndOk c && (codeOk a && codeOk b)
  | .block _ b => codeOk b
  | .loop b => codeOk b
  | _ => true

section
variable {P : Program} {Γ : Ctx} {base : Nat}

/-- A loop whose rounds are counted. -/
theorem wp_loop_nat {c : Code} {Q : Exit → Act → World → Prop} {a : Act} {w : World} (J : Nat → Act → World → Prop) {n : Nat} (h0 : J n a w)
    (round : ∀ n a w, J n a w → c.wp P (Exit.then (fun a' w' => ∃ m, m < n ∧ J m a' w') Q) a w) : (Code.loop c).wp P Q a w := by
  intro b k cs
  have key : ∀ n a w, J n a w → ∃ e a' w', Q e a' w' ∧ Arrives P (lone (b.at a (.code c :: .inLoop c :: k)) cs w) b k cs e a' w' := by
    intro n
    induction n using Nat.strongRecOn with
    | _ n ih =>
      intro a w hJ
      obtain ⟨e, a₁, w₁, hq, harr⟩ := round n a w hJ b (.inLoop c :: k) cs
      cases e with
      | normal =>
        obtain ⟨m, hm, hJ₁⟩ := hq
        obtain ⟨e₂, a₂, w₂, hq₂, harr₂⟩ := ih m hm a₁ w₁ hJ₁
        exact ⟨e₂, a₂, w₂, hq₂, .of_steps (Steps.trans harr (.one step_inLoop)) harr₂⟩
      | exit id => exact ⟨_, a₁, w₁, hq, .pass (x := .inLoop c) rfl (fun _ _ => .inl (by simp)) harr⟩
      | goto l => exact ⟨_, a₁, w₁, hq, .pass (x := .inLoop c) rfl (fun _ _ => .inl (by simp)) harr⟩
      | ret => exact ⟨_, a₁, w₁, hq, .pass (x := .inLoop c) rfl (fun _ _ => .inl (by simp)) harr⟩
      | panic ch => exact ⟨_, a₁, w₁, hq, .pass (x := .inLoop c) rfl (fun _ _ => .inl (by simp)) harr⟩
      | outgrown => exact ⟨_, a₁, w₁, hq, .pass (x := .inLoop c) rfl (fun _ _ => .inl (by simp)) harr⟩
  obtain ⟨e, a', w', hq, harr⟩ := key n a w h0
  exact ⟨e, a', w', hq, .of_steps (.one step_loop) harr⟩

theorem exGet_sound {β0 : Bt} {pre : List Nat} {lb : Nat} (hpre : ∀ n l, β0 n = some l → n ∈ pre) : ∀ (l : List LExit) (x : Ex) (s : St) (r : ExDen l), exGet pre lb l x s = some r →
    ∃ s2, (exOut l r).den = some (x, s2) ∧ ∀ (β : Bt) (a : Act) (w : World), β0.le β → SR β base s a w → ∃ β', β0.le β' ∧ SR β' base s2 a w
  | [], _, _, _, h => by cases h
  | [e], x, s, r, h => by
    have one : ∀ r : e.sh.den, (if x = e.ex then (normO pre lb e.keep s).bind e.sh.get else none) = some r → x = e.ex ∧ ∃ s2, normO pre lb e.keep s = some s2 ∧ e.sh.get s2 = some r := by
      intro r h
      split at h
      · rename_i hx
        cases hn : normO pre lb e.keep s with
        | none => rw [hn] at h; cases h
        | some s2 => rw [hn] at h; exact ⟨hx, s2, rfl, h⟩
      · cases h
    obtain ⟨hx, s2, h1, h2⟩ := one r h
    subst hx
    refine ⟨e.sh.fill r, rfl, fun β a w hle hs => ?_⟩
    obtain ⟨β', h3, h4⟩ := normO_sound hle hpre hs h1
    exact ⟨β', h3, SSh.get_sr h2 h4⟩
  | e :: f :: r', x, s, r, h => by
    have one : ∀ r : e.sh.den, (if x = e.ex then (normO pre lb e.keep s).bind e.sh.get else none) = some r → x = e.ex ∧ ∃ s2, normO pre lb e.keep s = some s2 ∧ e.sh.get s2 = some r := by
      intro r h
      split at h
      · rename_i hx
        cases hn : normO pre lb e.keep s with
        | none => rw [hn] at h; cases h
        | some s2 => rw [hn] at h; exact ⟨hx, s2, rfl, h⟩
      · cases h
    unfold exGet at h
    split at h
    · rename_i y hy
      cases h
      obtain ⟨hx, s2, h1, h2⟩ := one y hy
      subst hx
      refine ⟨e.sh.fill y, rfl, fun β a w hle hs => ?_⟩
      obtain ⟨β', h3, h4⟩ := normO_sound hle hpre hs h1
      exact ⟨β', h3, SSh.get_sr h2 h4⟩
    · cases hg : exGet pre lb (f :: r') x s with
      | none => rw [hg] at h; cases h
      | some z =>
        rw [hg] at h; cases h
        obtain ⟨s2, h1, h2⟩ := exGet_sound hpre (f :: r') x s z hg
        exact ⟨s2, h1, h2⟩

theorem cond_slot {β : Bt} {s : St} {a : Act} {w : World} (hs : SR β base s a w) {c : Operand} (hc : opndOk c = true) {b : Bool} (h : opv s.tm c = .bl b ∨ opv s.tm c = .bs b) : a.eval c = .bool b :=
  (guard_rep (opv_rep hs.tm c hc)).1 b h

theorem evCode_sound {call : CallF} (hΓ : CtxOk P Γ) (hcall : CallsOk P call) (fn nm : Nat) (pre : List Nat) (β0 : Bt) (hpre : ∀ n l, β0 n = some l → n ∈ pre) :
    ∀ (c : Code), codeOk c = true → ∀ (Q : Exit → Act → World → Prop) (β : Bt) (s : St) (a : Act) (w : World), β0.le β → SR β base s a w → ∀ r : Ex × St, (evCode Γ call fn nm pre c s).den = some r →
      (∀ a' w', After0 β0 w base r.2 a' w' → Q (exOf r.1) a' w') → c.wp P Q a w := by
  intro c
  induction c with
  | skip =>
    intro _ Q β s a w hle hs r he hQ
    have := den_ret he
    subst this
    exact wp_skip (hQ a w ⟨β, hle, hs, Below.refl _ _⟩)
  | label l =>
    intro _ Q β s a w hle hs r he hQ
    have := den_ret he
    subst this
    exact wp_label (hQ a w ⟨β, hle, hs, Below.refl _ _⟩)
  | region id ops draw =>
    intro hc Q β s a w hle hs r he hQ
    unfold codeOk at hc
    simp only [Bool.and_eq_true] at hc
    obtain ⟨s', h1, h2⟩ := den_bind_some he
    have := den_ret h2
    subst this
    exact evRegion_sound hΓ hcall id draw hc.1 hc.2 hs h1 fun a' w' ⟨β', h3, h4, h5⟩ => hQ a' w' ⟨β', hle.trans h3, h4, h5⟩
  | seq x y ihx ihy =>
    intro hc Q β s a w hle hs r he hQ
    unfold codeOk at hc
    simp only [Bool.and_eq_true] at hc
    obtain ⟨⟨e, s'⟩, h1, h2⟩ := den_bind_some he
    refine wp_seq (ihx hc.1 _ β s a w hle hs (e, s') h1 fun a' w' ⟨β', h3, h4, h5⟩ => ?_)
    cases e with
    | nrm => exact ihy hc.2 Q β' s' a' w' h3 h4 r h2 fun a2 w2 ⟨β2, g1, g2, g3⟩ => hQ a2 w2 ⟨β2, g1, g2, h5.trans g3⟩
    | ext i =>
      have := den_ret h2
      subst this
      exact hQ a' w' ⟨β', h3, h4, h5⟩
    | ret =>
      have := den_ret h2
      subst this
      exact hQ a' w' ⟨β', h3, h4, h5⟩
  | cond c x y ihx ihy =>
    intro hc Q β s a w hle hs r he hQ
    unfold codeOk at hc
    simp only [Bool.and_eq_true] at hc
    unfold evCode at he
    split at he
    · rename_i h; exact wp_cond_true (cond_slot hs hc.1 (.inl h)) (ihx hc.2.1 Q β s a w hle hs r he hQ)
    · rename_i h; exact wp_cond_false (cond_slot hs hc.1 (.inl h)) (ihy hc.2.2 Q β s a w hle hs r he hQ)
    · rename_i b h
      have hb := cond_slot hs hc.1 (.inr h)
      rw [T.den] at he
      cases b with
      | true => exact wp_cond_true hb (ihx hc.2.1 Q β s a w hle hs r he hQ)
      | false => exact wp_cond_false hb (ihy hc.2.2 Q β s a w hle hs r he hQ)
    · exact (den_fail he).elim
  | block id x ih =>
    intro hc Q β s a w hle hs r he hQ
    obtain ⟨⟨e, s'⟩, h1, h2⟩ := den_bind_some he
    refine wp_block (ih hc _ β s a w hle hs (e, s') h1 fun a' w' h3 => ?_)
    cases e with
    | nrm =>
      have := den_ret h2
      subst this
      exact hQ a' w' h3
    | ext i =>
      have := den_ret h2
      subst this
      show Exit.inBlock id Q (.exit i) a' w'
      show if i = id then Q .normal a' w' else Q (.exit i) a' w'
      have hQ' := hQ a' w' h3
      cases hb : Nat.beq i id with
      | true =>
        have := Nat.eq_of_beq_eq_true hb
        rw [hb] at hQ'
        rw [if_pos this]; exact hQ'
      | false =>
        have hne : i ≠ id := fun e => by subst e; rw [Nat.beq_refl] at hb; cases hb
        rw [hb] at hQ'
        rw [if_neg hne]; exact hQ'
    | ret =>
      have := den_ret h2
      subst this
      exact hQ a' w' h3
  | exit id =>
    intro _ Q β s a w hle hs r he hQ
    have := den_ret he
    subst this
    exact wp_exit (hQ a w ⟨β, hle, hs, Below.refl _ _⟩)
  | ret =>
    intro _ Q β s a w hle hs r he hQ
    have := den_ret he
    subst this
    exact wp_ret (hQ a w ⟨β, hle, hs, Below.refl _ _⟩)
  | rangeFunc f p x y _ _ => intro _ Q β s a w hle hs r he hQ; exact (den_fail he).elim
  | scope x _ => intro _ Q β s a w hle hs r he hQ; exact (den_fail he).elim
  | goto l => intro _ Q β s a w hle hs r he hQ; exact (den_fail he).elim
  | refuse y => intro _ Q β s a w hle hs r he hQ; exact (den_fail he).elim
  | loop x ih =>
    intro hc Q β s a w hle hs r he hQ
    unfold evCode at he
    split at he
    · exact (den_fail he).elim
    · rename_i key hkey
      split at he
      · rw [T.den] at he; cases he
      · rename_i L hL
        split at he
        · rw [T.den] at he; cases he
        · rename_i x0 hx0
          obtain ⟨z, h1, h2⟩ := den_bnd he
          cases hn : normO pre (loopBase nm key) L.keep s with
          | none => rw [hn] at hx0; cases hx0
          | some s0 =>
          rw [hn] at hx0
          obtain ⟨β1, h3, h4⟩ := normO_sound hle hpre hs hn
          have h5 := SSh.get_sr hx0 h4
          refine wp_loop_nat (fun n a' w' => ∃ y β', iter (fun y => (roundT pre (loopBase nm key) L (evCode Γ call fn nm pre x) y).den) n y = some z ∧ β0.le β' ∧ SR β' base (L.sh.fill y) a' w' ∧ Below base w w') (n := L.fuel x0) ⟨x0, β1, h1, h3, h5, Below.refl _ _⟩ fun n a' w' hJ => ?_
          obtain ⟨y, β', g1, g2, g3, g4⟩ := hJ
          cases n with
          | zero => cases g1
          | succ m =>
            rw [iter] at g1
            cases hB : (roundT pre (loopBase nm key) L (evCode Γ call fn nm pre x) y).den with
            | none => rw [hB] at g1; cases g1
            | some q =>
              rw [hB] at g1
              simp only [Option.bind_some] at g1
              unfold roundT at hB
              obtain ⟨⟨e, s'⟩, k1, k2⟩ := den_bind_some hB
              refine ih hc _ β' _ a' w' g2 g3 (e, s') k1 fun a2 w2 ⟨β2, l1, l2, l3⟩ => ?_
              have exit : ∀ (hne : e ≠ .nrm) (z' : ExDen L.exits), exGet pre (loopBase nm key) L.exits e s' = some z' → z' = z → Q (exOf e) a2 w2 := by
                intro _ z' hz' ez
                subst ez
                obtain ⟨s2, m1, m2⟩ := exGet_sound (base := base) hpre L.exits e s' z' hz'
                rw [m1] at h2
                cases h2
                obtain ⟨β3, m3, m4⟩ := m2 β2 a2 w2 l1 l2
                exact hQ a2 w2 ⟨β3, m3, m4, g4.trans l3⟩
              cases e with
              | nrm =>
                dsimp only at k2
                split at k2
                · rename_i y' hy'
                  have := den_ret k2
                  subst this
                  cases hn' : normO pre (loopBase nm key) L.keep s' with
                  | none => rw [hn'] at hy'; cases hy'
                  | some s1 =>
                    rw [hn'] at hy'
                    obtain ⟨β3, m1, m2⟩ := normO_sound l1 hpre l2 hn'
                    exact ⟨m, Nat.lt_succ_self m, y', β3, g1, m1, SSh.get_sr hy' m2, g4.trans l3⟩
                · rw [T.den] at k2; cases k2
              | ext i =>
                dsimp only at k2
                split at k2
                · rename_i z' hz'
                  have := den_ret k2
                  subst this
                  exact exit (by simp) z' hz' (by simpa using g1)
                · rw [T.den] at k2; cases k2
              | ret =>
                dsimp only at k2
                split at k2
                · rename_i z' hz'
                  have := den_ret k2
                  subst this
                  exact exit (by simp) z' hz' (by simpa using g1)
                · rw [T.den] at k2; cases k2
end
end Go.Ab
