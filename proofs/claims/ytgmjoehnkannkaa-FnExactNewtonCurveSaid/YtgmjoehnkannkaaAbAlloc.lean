/-
  Operations that turn no memory that was there. Part 6: slices of slices, literals, new blocks, builtins.
-/
import Derived.Test.YtgmjoehnkannkaaAbLoad
namespace Go.Ab
open Go.RowKit

inductive ORep (β : Bt) : Option AV → Option Value → Prop
  | none : ORep β none none
  | some (v : AV) (u : Value) : VRep β v u → ORep β (some v) (some u)

section
variable {P : Program} {Γ : Ctx} {β : Bt} {g h : Heap} {w : World} {base : Nat}

theorem sliceBound_run {k : IntKind} {i : Int} {n : Nat} (c : BoundsCode) (h0 : 0 ≤ i) (h1 : i ≤ (n : Int)) (w : World) : (Instr.sliceBound (.int k i) n c).run P w = .ok i.toNat w := by
  unfold Instr.sliceBound
  simp [asIntOf, h0, h1]

inductive LoB : Option Value → Nat → Nat → Prop
  | none (r : Nat) : LoB none r 0
  | some (k : IntKind) (i : Int) (r : Nat) : 0 ≤ i → i ≤ (r : Int) → LoB (some (.int k i)) r i.toNat
inductive HiB : Option Value → Nat → Nat → Prop
  | none (n : Nat) : HiB none n n
  | some (k : IntKind) (i : Int) (n : Nat) : 0 ≤ i → i ≤ (n : Int) → HiB (some (.int k i)) n i.toNat

theorem LoB.le {lo : Option Value} {r l : Nat} (h : LoB lo r l) : l ≤ r := by cases h <;> omega
theorem HiB.le {hi : Option Value} {r n : Nat} (h : HiB hi n r) : r ≤ n := by cases h <;> omega

theorem bounds_run (b : Bool) {lo hi : Option Value} {n c l r : Nat} (hnc : n ≤ c) (hl : LoB lo r l) (hr : HiB hi n r) (w : World) :
    (Instr.sliceBounds b n c lo hi none).run P w = .ok (l, r, c) w := by
  unfold Instr.sliceBounds
  cases hr with
  | none =>
    cases hl with
    | none => rfl
    | some k i _ h1 h2 => simp [sliceBound_run (P := P) _ h1 h2]
  | some k i _ h3 h4 =>
    have h4' : i ≤ (c : Int) := Int.le_trans h4 (Int.ofNat_le.2 hnc)
    cases hl with
    | none => simp [sliceBound_run (P := P) _ h3 h4']
    | some k i _ h1 h2 => simp [sliceBound_run (P := P) _ h3 h4', sliceBound_run (P := P) _ h1 h2]

/-- a slice of a slice that lies there -/
theorem slcOk_sub {l : Loc} {off len cap : Nat} {a : Option Addr} (hok : SlcOk l off len a cap) {x y : Nat} (hxy : x ≤ y) (hy : y ≤ len) :
    SlcOk l (off + x) (y - x) (if cap = x then a else a.map (·.add (x * l.es))) (cap - x) := by
  obtain ⟨h1, h2⟩ := hok
  refine ⟨by omega, ?_⟩
  rcases h2 with ⟨h2, h3⟩ | ⟨h2, h3, h4⟩
  · exact .inl ⟨by omega, fun h => by have := h3 h; omega⟩
  · by_cases hc : cap = x
    · exact .inl ⟨by omega, fun _ => by omega⟩
    · refine .inr ⟨?_, by omega, fun ho => ?_⟩
      · rw [if_neg hc, h2]
        simp only [Option.map_some, addr_add, Nat.add_mul, Nat.add_assoc]
      · have := h4 ho
        rw [show off + x + (cap - x) = off + cap by omega]; exact this

theorem sliceA_run (hΓ : TysOk P Γ) (hs : Sub g h) (hr : Rep β h w base) (t : Nat) (p : AV) (lo hi mx : Option AV) (hio mxo : Option Operand) (x : Value) (lo' hi' mx' : Option Value)
    (hx : VRep β p x) (hlo : ORep β lo lo') (hhi : ORep β hi hi') (hmx : ORep β mx mx')
    (hz1 : isZeroC hio = true → ∃ k, hi' = some (.int k 0)) (hz2 : isZeroC mxo = true → ∃ k, mx' = some (.int k 0))
    (v : AV) (he : (sliceA Γ g t p lo hi mx hio mxo).den = some v) : RunsTo P (Instr.sliceAt t x lo' hi' mx') w (VRep β v) := by
  unfold sliceA at he
  split at he
  · -- strings
    rename_i s hti
    obtain ⟨d, hu, hd, _⟩ := (hΓ.ty _ _ hti).under
    obtain rfl := dok_str hd
    cases hx
    have fin : ∀ l r, LoB lo' r l → HiB hi' s.size r → mx' = none → v = .str (s.extract l r) → RunsTo P (Instr.sliceAt t (.string s) lo' hi' mx') w (VRep β v) := by
      intro l r h1 h1' h2 h3
      subst h2 h3
      refine RunsTo.of (u := .string (s.extract l r)) ?_ (.str _)
      unfold Instr.sliceAt Instr.slice
      simp [hu, bounds_run (P := P) false (Nat.le_refl _) h1 h1' w]
    split at he
    · cases hlo; cases hhi; cases hmx
      exact fin 0 s.size (.none _) (.none _) rfl (den_ret he).symm
    · cases hlo with
      | some _ _ hlo =>
      cases hlo; cases hhi; cases hmx
      obtain ⟨h1, h2⟩ := den_ifb he
      simp only [Bool.and_eq_true, decide_eq_true_eq] at h1
      exact fin _ s.size (.some _ _ _ h1.1 h1.2) (.none _) rfl (den_ret h2).symm
    · cases hhi with
      | some _ _ hhi =>
      cases hhi; cases hlo; cases hmx
      obtain ⟨h1, h2⟩ := den_ifb he
      simp only [Bool.and_eq_true, decide_eq_true_eq] at h1
      exact fin 0 _ (.none _) (.some _ _ _ h1.1 h1.2) rfl (den_ret h2).symm
    · cases hhi with
      | some _ _ hhi =>
      cases hlo with
      | some _ _ hlo =>
      cases hhi; cases hlo; cases hmx
      obtain ⟨h1, h2⟩ := den_ifb he
      simp only [Bool.and_eq_true, decide_eq_true_eq] at h1
      exact fin _ _ (.some _ _ _ h1.2.1 (by have := h1.2.2; omega)) (.some _ _ _ h1.1.1 h1.1.2) rfl (den_ret h2).symm
    · exact (den_fail he).elim
  · -- slices
    rename_i e _ _ _ _ hti
    obtain ⟨d, hu, hd, _⟩ := (hΓ.ty _ _ hti).under
    obtain rfl := dok_slc hd
    dsimp only at he
    split at he
    · rename_i hc
      simp only [Bool.and_eq_true] at hc
      obtain ⟨⟨hc1, hc2⟩, hc3⟩ := hc
      obtain ⟨k1, rfl⟩ := hz1 hc2
      obtain ⟨k2, rfl⟩ := hz2 hc3
      have hlo' : lo' = none := by cases hlo with | none => rfl | some v u _ => simp at hc1
      subst hlo'
      have key : ∀ a len cap, (sizeOf e).run P w = .ok (sizeOfA Γ e) w → RunsTo P (Instr.sliceAt t (.slice a len cap) none (some (.int k1 0)) (some (.int k2 0))) w (VRep β (.nils none)) ∧ ∀ κ, RunsTo P (Instr.sliceAt t (.slice a len cap) none (some (.int k1 0)) (some (.int k2 0))) w (VRep β (.nils κ)) := by
        intro a len cap hsz
        have hrun : (Instr.sliceAt t (.slice a len cap) none (some (.int k1 0)) (some (.int k2 0))).run P w = .ok (.slice a 0 0) w := by
          unfold Instr.sliceAt Instr.slice Instr.sliceBounds
          simp [hu, sliceBound_run (P := P) (n := cap) _ (Int.le_refl 0) (Int.natCast_nonneg _), sliceBound_run (P := P) (n := 0) (i := 0) _ (Int.le_refl 0) (Int.le_refl _), hsz]
        exact ⟨RunsTo.of hrun (.nils _ _), fun κ => RunsTo.of hrun (.nils _ _)⟩
      split at he
      · rename_i hsz0
        have hsz := sizeOfA_run (P := P) hΓ hsz0 w
        split at he
        · cases hx with | slc _ _ _ l a cap hl hok => rw [← den_ret he]; exact (key a _ cap hsz).1
        · cases hx with | nils _ a => rw [← den_ret he]; exact (key a 0 0 hsz).2 _
        · exact (den_fail he).elim
      · exact (den_fail he).elim
    · have fin : ∀ n off len l r, x = x → VRep β (.slc n off len) x → LoB lo' r l → HiB hi' len r → mx' = none → (sizeOf e).run P w = .ok (sizeOfA Γ e) w → (∀ loc, β n = some loc → loc.es = sizeOfA Γ e ∨ l = 0) →
          RunsTo P (Instr.sliceAt t x lo' hi' mx') w (VRep β (.slc n (off + l) (r - l))) := by
        intro n off len l r _ hx h1 h2 h3 hsz hes
        subst h3
        cases hx with
        | slc n off len loc a cap hl hok =>
        have hnc : len ≤ cap := by obtain ⟨_, h2⟩ := hok; rcases h2 with ⟨h2, _⟩ | h2 <;> omega
        have hrun : (Instr.sliceAt t (.slice a len cap) lo' hi' none).run P w = .ok (.slice (if cap = l then a else a.map (·.add (l * sizeOfA Γ e))) (r - l) (cap - l)) w := by
          unfold Instr.sliceAt Instr.slice
          simp [hu, bounds_run (P := P) true hnc h1 h2 w, hsz]
        refine RunsTo.of hrun ?_
        have hsub := slcOk_sub hok h1.le h2.le
        have ha : (if cap = l then a else a.map (·.add (l * sizeOfA Γ e))) = (if cap = l then a else a.map (·.add (l * loc.es))) := by
          rcases hes loc hl with he | he
          · rw [he]
          · subst he; simp
        rw [ha]
        exact .slc _ _ _ _ _ _ hl hsub
      have fin2 : ∀ n off len l r (T0 : T AV), ((match hget g n with | some (.arr _ κ _) => if sizeOfA Γ e = κ.size then T0 else .fail | _ => .fail) : T AV).den = some v → (T0.den = some v → v = .slc n (off + l) (r - l) ∧ LoB lo' r l ∧ HiB hi' len r) → VRep β (.slc n off len) x → mx' = none →
          RunsTo P (Instr.sliceAt t x lo' hi' mx') w (VRep β v) := by
        intro n off len l r T0 hT himp hx' hm
        split at hT
        · rename_i o κ cl hg
          split at hT
          · rename_i hsz0
            obtain ⟨rfl, h1, h2⟩ := himp hT
            refine fin n off len l r rfl hx' h1 h2 hm (sizeOfA_run (P := P) hΓ (by rw [hsz0]; exact Nat.ne_of_gt κ.size_pos) w) (fun loc hl => .inl ?_)
            rw [hsz0]
            exact (hr.get (hs _ _ hg) trivial hl).es
          · exact (den_fail hT).elim
        · exact (den_fail hT).elim
      split at he
      · -- no bounds
        cases hlo; cases hhi; cases hmx
        split at he
        · rename_i hsz0
          have hsz := sizeOfA_run (P := P) hΓ hsz0 w
          rw [← den_ret he]
          have := fin _ _ _ 0 _ rfl hx (.none _) (.none _) rfl hsz (fun _ _ => .inr rfl)
          simpa using this
        · exact (den_fail he).elim
      · cases hlo with
        | some _ _ hlo =>
        cases hlo; cases hhi; cases hmx
        rename_i n off len k l _
        refine fin2 n off len l.toNat len _ he (fun h2 => ?_) hx rfl
        obtain ⟨h1, h2⟩ := den_ifb h2
        simp only [Bool.and_eq_true, decide_eq_true_eq] at h1
        exact ⟨(den_ret h2).symm, .some _ _ _ h1.1 h1.2, .none _⟩
      · cases hhi with
        | some _ _ hhi =>
        cases hhi; cases hlo; cases hmx
        rename_i n off len k r _
        refine fin2 n off len 0 r.toNat _ he (fun h2 => ?_) hx rfl
        obtain ⟨h1, h2⟩ := den_ifb h2
        simp only [Bool.and_eq_true, decide_eq_true_eq] at h1
        exact ⟨(den_ret h2).symm, .none _, .some _ _ _ h1.1 h1.2⟩
      · cases hhi with
        | some _ _ hhi =>
        cases hlo with
        | some _ _ hlo =>
        cases hhi; cases hlo; cases hmx
        rename_i n off len k l k' r _
        refine fin2 n off len l.toNat r.toNat _ he (fun h2 => ?_) hx rfl
        obtain ⟨h1, h2⟩ := den_ifb h2
        simp only [Bool.and_eq_true, decide_eq_true_eq] at h1
        exact ⟨(den_ret h2).symm, .some _ _ _ h1.2.1 (by have := h1.2.2; omega), .some _ _ _ h1.1.1 h1.1.2⟩
      · exact (den_fail he).elim
  · exact (den_fail he).elim
end
end Go.Ab
