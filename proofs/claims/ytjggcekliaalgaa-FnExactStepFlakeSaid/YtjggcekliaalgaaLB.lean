/-
  Operations that turn no memory. Part 5: loads, addresses, parts, slices.
-/
import Derived.Test.YtjggcekliaalgaaLA
namespace Go.Ab
open Go.RowKit

section
variable {P : Program} {Γ : Ctx} {β : Bt} {g h : Heap} {w : World} {base : Nat}

theorem load_one {a : Addr} {u : Value} (hc : w.cell? a = some u) : (load a).run P w = .ok u w := by
  rw [run_load, hc]

theorem loadVar_one {t : Nat} {ti : TyI} (hT : TyOk P t ti) (ha : ti.isAgg = false) {a : Addr} {u : Value} (hc : w.cell? a = some u) : (loadVar t a).run P w = .ok u w := by
  unfold loadVar
  rw [Sem.run_bind, hT.isAgg w]
  simp only [Result.andThen_ok, ha]
  exact load_one hc

theorem loadVar_agg {t : Nat} {ti : TyI} (hT : TyOk P t ti) (ha : ti.isAgg = true) {blk o : Nat} {l : List AV} (hlen : l.length = ti.size)
    (hc : ∀ j x, l[j]? = some x → ∃ u, w.cell? ⟨blk, o + j, none⟩ = some u ∧ VRep β x u) :
    ∃ us : Array Value, (loadVar t ⟨blk, o, none⟩).run P w = .ok (.agg us) w ∧ VReps β l us.toList := by
  obtain ⟨us, h1, h2, h3⟩ := load_cells (P := P) hc
  refine ⟨us.toArray, ?_, by simpa using h2⟩
  unfold loadVar
  rw [hlen] at h3
  simp [hT.isAgg w, ha, hT.sizeOf w, h3]

theorem getD_of {α : Type} {l : List α} {i : Nat} {d : α} (h : i < l.length) : l[i]? = some (l.getD i d) := by
  simp [List.getD_eq_getElem?_getD, List.getElem?_eq_getElem h]

theorem loadA_run (hΓ : TysOk P Γ) (hs : Sub g h) (hr : Rep β h w base) (t : Nat) (p : AV) (x : Value) (hx : VRep β p x) (v : AV) (he : (loadA Γ g t p).den = some v) :
    ∃ a, x = .pointer (some a) ∧ ∃ u, (loadVar t a).run P w = .ok u w ∧ VRep β v u := by
  unfold loadA at he
  split at he
  · rename_i ti n i c hti
    have hT := hΓ.ty _ _ hti
    cases hx with
    | ptr _ _ _ l hl hi hc =>
    refine ⟨_, rfl, ?_⟩
    split at he
    · rename_i o cl hg
      have hb := hr.get (hs _ _ hg) trivial hl
      have hes : l.es = 1 := hb.es
      have hc0 : c = 0 := by omega
      subst hc0
      have haddr : l.off + (i * l.es + 0) = l.off + i := by rw [hes]; omega
      rw [haddr]
      split at he
      · rename_i ha
        split at he
        · rename_i hsz
          rw [← den_ret he]
          have hlen : ((cl.drop i).take ti.size).length = ti.size := by rw [List.length_take, List.length_drop]; omega
          obtain ⟨us, h1, h2⟩ := loadVar_agg (P := P) (β := β) (w := w) (blk := l.blk) (o := l.off + i) hT ha hlen (fun j x hj => by
            rw [List.getElem?_take] at hj
            split at hj
            · rw [List.getElem?_drop] at hj
              obtain ⟨u, hu, hv⟩ := hb.cells (i + j) x hj
              exact ⟨u, by rw [Nat.add_assoc]; exact hu, hv⟩
            · cases hj)
          exact ⟨_, h1, .agg _ _ h2⟩
        · exact (den_fail he).elim
      · rename_i ha
        simp at he
        have hv := den_opt he
        obtain ⟨u, hu, hv'⟩ := hb.cells i v hv
        exact ⟨u, loadVar_one hT (by simpa using ha) hu, hv'⟩
    · rename_i o κ cl hg
      have hb := hr.get (hs _ _ hg) trivial hl
      have hes : l.es = κ.size := hb.es
      have hlen : l.len = cl.length := hb.len
      have hget : cl[i]? = some (cl.getD i κ.dflt) := getD_of (by omega)
      split at he
      · rename_i ha
        split at he
        · rename_i hsz
          obtain ⟨rfl, hsz, _⟩ := hsz
          rw [← den_ret he]
          obtain ⟨us, h1, h2⟩ := loadVar_agg (P := P) (β := β) (w := w) (blk := l.blk) (o := l.off + (i * l.es + 0)) (l := κ.cells (cl.getD i κ.dflt)) hT ha (by rw [EK.cells_length, hsz]) (fun j x hj => by
            have hj' : j < κ.size := by
              have := (List.getElem?_eq_some_iff.1 hj).1
              rwa [EK.cells_length] at this
            obtain ⟨u, hu, hv⟩ := hb.cells (i * κ.size + j) x (by rw [show Blk.cl (.arr o κ cl) = cl.flatMap κ.cells from rfl, flat_get κ cl i j _ hget hj']; exact hj)
            exact ⟨u, by rw [hes, Nat.add_zero, Nat.add_assoc]; exact hu, hv⟩)
          exact ⟨_, h1, .agg _ _ h2⟩
        · split at he
          · rename_i m e hd
            split at he
            · rename_i hc0
              obtain ⟨rfl, rfl⟩ := hc0
              obtain ⟨h1, h2⟩ := den_ifb he
              rw [← den_ret h2]
              simp only [Bool.and_eq_true, decide_eq_true_eq, beq_iff_eq] at h1
              obtain ⟨us, h3, h4⟩ := loadVar_agg (P := P) (β := β) (w := w) (blk := l.blk) (o := l.off + (0 * l.es + 0)) (l := cl.flatMap κ.cells) hT ha (by rw [flat_length, h1.1, h1.2]) (fun j x hj => by
                obtain ⟨u, hu, hv⟩ := hb.cells j x hj
                exact ⟨u, by rw [Nat.zero_mul, Nat.add_zero]; exact hu, hv⟩)
              exact ⟨_, h3, .arv _ _ _ h4⟩
            · exact (den_fail he).elim
          · exact (den_fail he).elim
      · rename_i ha
        have hv := den_opt he
        obtain ⟨u, hu, hv'⟩ := hb.cells (i * κ.size + c) v (by rw [show Blk.cl (.arr o κ cl) = cl.flatMap κ.cells from rfl, flat_get κ cl i c _ hget (by omega)]; exact hv)
        exact ⟨u, loadVar_one hT (by simpa using ha) (by rw [hes]; exact hu), hv'⟩
    · exact (den_fail he).elim
  · exact (den_fail he).elim

theorem addr_add' (blk o j : Nat) : (⟨blk, o, none⟩ : Addr).add j = ⟨blk, o + j, none⟩ := addr_add blk o j

/-- the field of a struct type -/
theorem fieldOff_run (hΓ : TysOk P Γ) {t f ft off : Nat} (he : fieldOff Γ t f = some (ft, off)) :
    ∃ fs fd, (∀ w, (underlying t).run P w = .ok (.struct fs) w) ∧ fs[f]? = some fd ∧ fd.type = ft ∧ fd.offset = off := by
  unfold fieldOff at he
  split at he
  · rename_i fs _ _ _ _ e
    obtain ⟨d, h1, h2, _⟩ := (hΓ.ty _ _ e).under
    obtain ⟨fs', rfl, hfs⟩ := dok_struct h2
    rw [hfs, List.getElem?_map] at he
    cases hf : fs'.toList[f]? with
    | none => rw [hf] at he; cases he
    | some fd =>
      rw [hf] at he
      simp at he
      exact ⟨fs', fd, h1, by simpa using hf, he.1, he.2⟩
  · cases he

theorem fieldAddrA_run (hΓ : TysOk P Γ) (hs : Sub g h) (hr : Rep β h w base) (t : Nat) (p : AV) (f : Nat) (x : Value) (hx : VRep β p x) (v : AV) (he : (fieldAddrA Γ g t p f).den = some v) :
    RunsTo P (Instr.fieldAt t x f) w (VRep β v) := by
  unfold fieldAddrA at he
  split at he
  · rename_i ft off n i c ho
    obtain ⟨fs, fd, hu, hf, hft, hoff⟩ := fieldOff_run hΓ ho
    cases hx with
    | ptr _ _ _ l hl hi hc =>
    split at he
    · exact (den_fail he).elim
    rename_i hsz
    obtain ⟨hsz1, hsz2⟩ : (∀ w, (sizeOf fd.type).run P w = .ok (sizeOfA Γ ft) w) ∧ sizeOfA Γ ft ≠ 0 := by
      refine ⟨fun w => ?_, hsz⟩
      rw [hft]
      unfold sizeOfA at hsz ⊢
      cases he : Γ.ty ft with
      | none => rw [he] at hsz; exact absurd rfl hsz
      | some ti => exact (hΓ.ty _ _ he).sizeOf w
    have hrun : (Instr.fieldAt t (.pointer (some ⟨l.blk, l.off + (i * l.es + c), none⟩)) f).run P w = .ok (.pointer (some ⟨l.blk, l.off + (i * l.es + c) + off, none⟩)) w := by
      unfold Instr.fieldAt
      simp [hu, hf, Instr.sureAddr, fieldPlace, hoff, addr_add, hsz1, hsz2]
    split at he
    · rename_i o cl hg
      have hb := hr.get (hs _ _ hg) trivial hl
      have hes : l.es = 1 := hb.es
      have hlen : l.len = cl.length := hb.len
      split at he
      · rename_i hlt
        rw [← den_ret he]
        refine RunsTo.of hrun ?_
        have := VRep.ptr (β := β) n (i + off) c l hl (by omega) hc
        rw [hes] at this ⊢
        rw [show l.off + (i * 1 + c) + off = l.off + ((i + off) * 1 + c) by omega]
        exact this
      · exact (den_fail he).elim
    · rename_i o κ cl hg
      have hb := hr.get (hs _ _ hg) trivial hl
      have hes : l.es = κ.size := hb.es
      split at he
      · rename_i hlt
        rw [← den_ret he]
        refine RunsTo.of hrun ?_
        have := VRep.ptr (β := β) n i (c + off) l hl hi (by omega)
        rw [show l.off + (i * l.es + c) + off = l.off + (i * l.es + (c + off)) by omega]
        exact this
      · exact (den_fail he).elim
    · exact (den_fail he).elim
  · exact (den_fail he).elim

/-- a part of a value that lies cell by cell -/
theorem part_run {t : Nat} {ti : TyI} (hT : TyOk P t ti) {l : List AV} {cs : Array Value} (hv : VReps β l cs.toList) (off : Nat) (v : AV)
    (he : (if ti.isAgg = true then (if off + ti.size ≤ l.length then T.ret (.agg ((l.drop off).take ti.size)) else .fail) else T.opt l[off]?).den = some v) :
    ∃ u, (part t cs off).run P w = .ok u w ∧ VRep β v u := by
  split at he
  · rename_i ha
    split at he
    · rename_i hsz
      rw [← den_ret he]
      refine ⟨.agg (cs.extract off (off + ti.size)), ?_, .agg _ _ ?_⟩
      · unfold part; simp [hT.isAgg w, ha, hT.sizeOf w]
      · have := (hv.drop off).take ti.size
        simpa [List.extract_eq_take_drop, List.drop_take] using this
    · exact (den_fail he).elim
  · rename_i ha
    obtain ⟨u, hu, hv'⟩ := hv.get off (den_opt he)
    refine ⟨u, ?_, hv'⟩
    have ha' : ti.isAgg = false := by simpa using ha
    have hu' : cs[off]? = some u := by simpa using hu
    unfold part
    simp [hT.isAgg w, ha', hu']

theorem fieldA_run (hΓ : TysOk P Γ) (t : Nat) (a : AV) (f : Nat) (x : Value) (hx : VRep β a x) (v : AV) (he : (fieldA Γ t a f).den = some v) :
    RunsTo P (Instr.field t x f) w (VRep β v) := by
  unfold fieldA at he
  split at he
  · rename_i ft off l ho
    obtain ⟨fs, fd, hu, hf, hft, hoff⟩ := fieldOff_run hΓ ho
    cases hx with
    | agg _ cs hcs =>
    split at he
    · rename_i ti hti
      obtain ⟨u, h1, h2⟩ := part_run (w := w) (hΓ.ty _ _ hti) hcs off v he
      refine RunsTo.of (u := u) ?_ h2
      unfold Instr.field
      simp [hu, hf, asAgg, hft, hoff, h1]
    · exact (den_fail he).elim
  · exact (den_fail he).elim

theorem inB_spec {i : Int} {n : Nat} (h : inB i n = true) : 0 ≤ i ∧ i < (n : Int) := by
  simpa [inB] using h

theorem sizeOfA_run (hΓ : TysOk P Γ) {t : Nat} (h0 : sizeOfA Γ t ≠ 0) (w : World) : (sizeOf t).run P w = .ok (sizeOfA Γ t) w := by
  unfold sizeOfA at h0 ⊢
  cases he : Γ.ty t with
  | none => rw [he] at h0; exact absurd rfl h0
  | some ti => exact (hΓ.ty _ _ he).sizeOf w

theorem indexAddrA_run (hΓ : TysOk P Γ) (hs : Sub g h) (hr : Rep β h w base) (t : Nat) (p q : AV) (x y : Value) (hx : VRep β p x) (hy : VRep β q y) (v : AV) (he : (indexAddrA Γ g t p q).den = some v) :
    RunsTo P (Instr.indexAt t x y) w (VRep β v) := by
  unfold indexAddrA at he
  split at he
  · rename_i e _ _ _ _ n off len k i hti
    obtain ⟨d, hu, hd, _⟩ := (hΓ.ty _ _ hti).under
    obtain rfl := dok_slc hd
    split at he
    · rename_i o κ cl hg
      split at he
      · rename_i hsz
        obtain ⟨h1, h2⟩ := den_ifb he
        obtain ⟨h3, h4⟩ := inB_spec h1
        rw [← den_ret h2]
        cases hy
        cases hx with
        | slc _ _ _ l a cap hl hok =>
        have hb := hr.get (hs _ _ hg) trivial hl
        have hes : l.es = κ.size := hb.es
        have hsz' := sizeOfA_run (P := P) hΓ (t := e) (by rw [hsz]; exact Nat.ne_of_gt κ.size_pos) w
        rw [hsz] at hsz'
        obtain ⟨h5, h6⟩ := hok
        rcases h6 with ⟨h6, _⟩ | ⟨h6, h7, _⟩
        · omega
        · subst h6
          have hp := κ.size_pos
          have := VRep.ptr (β := β) n (off + i.toNat) 0 l hl (by omega) (by omega)
          refine RunsTo.of (u := .pointer (some ⟨l.blk, l.off + ((off + i.toNat) * l.es + 0), none⟩)) ?_ this
          unfold Instr.indexAt
          simp [hu, asIntOf, h3, h4, hsz', addr_add, hes, Nat.add_mul, Nat.add_assoc]
      · exact (den_fail he).elim
    · exact (den_fail he).elim
  · rename_i m e _ _ _ _ n k i hti
    obtain ⟨d, hu, hd, _⟩ := (hΓ.ty _ _ hti).under
    obtain rfl := dok_arr hd
    split at he
    · rename_i o κ cl hg
      split at he
      · rename_i hsz
        obtain ⟨h1, h2⟩ := den_ifb he
        simp only [Bool.and_eq_true, decide_eq_true_eq] at h1
        obtain ⟨h3, h4⟩ := inB_spec h1.1
        rw [← den_ret h2]
        cases hy
        cases hx with
        | ptr _ _ _ l hl hi hc =>
        have hb := hr.get (hs _ _ hg) trivial hl
        have hes : l.es = κ.size := hb.es
        have hlen : l.len = cl.length := hb.len
        have hsz' := sizeOfA_run (P := P) hΓ (t := e) (by rw [hsz]; exact Nat.ne_of_gt κ.size_pos) w
        rw [hsz] at hsz'
        have hp := κ.size_pos
        have := VRep.ptr (β := β) n i.toNat 0 l hl (by omega) (by omega)
        refine RunsTo.of (u := .pointer (some ⟨l.blk, l.off + (i.toNat * l.es + 0), none⟩)) ?_ this
        have h4' : i < (m : Int) := by omega
        unfold Instr.indexAt
        simp [hu, asIntOf, h3, h4', hsz', addr_add, hes, Instr.sureAddr]
      · exact (den_fail he).elim
    · exact (den_fail he).elim
  · exact (den_fail he).elim

theorem sget_run {s : ByteArray} {i : Int} (h : inB i s.size = true) : (if 0 ≤ i then s[i.toNat]? else none) = some (s.data.getD i.toNat 0) := by
  obtain ⟨h1, h2⟩ := inB_spec h
  rw [if_pos h1]
  have hlt : i.toNat < s.size := by omega
  have hlt' : i.toNat < s.data.size := hlt
  rw [getElem?_pos s i.toNat hlt]
  simp only [Array.getD]
  rw [dif_pos hlt']
  rfl

theorem VReps.val {κ : EK} {x : κ.den} {us : List Value} (h : VReps β (κ.cells x) us) (h1 : κ.size = 1) : ∃ u, us = [u] ∧ VRep β (κ.val x) u := by
  cases κ with
  | pair a b => have := a.size_pos; have := b.size_pos; simp [EK.size] at h1; omega
  | _ =>
    cases h with
    | cons _ u _ s h1 h2 => cases h2; exact ⟨_, rfl, h1⟩

theorem indexA0_run (hΓ : TysOk P Γ) (t : Nat) (p q : AV) (x y : Value) (hx : VRep β p x) (hy : VRep β q y) (v : AV) (he : (indexA0 Γ t p q).den = some v) :
    RunsTo P (Instr.index t x y) w (VRep β v) := by
  unfold indexA0 at he
  split at he
  · rename_i s k i hti
    obtain ⟨d, hu, hd, _⟩ := (hΓ.ty _ _ hti).under
    obtain rfl := dok_str hd
    obtain ⟨h1, h2⟩ := den_ifb he
    rw [← den_ret h2]
    cases hx; cases hy
    refine RunsTo.of (u := .int .u8 (sget s i.toNat)) ?_ (.int _ _)
    unfold Instr.index
    simp only [Sem.run_bind, asIntOf, Sem.run_pure, Result.andThen_ok, hu, sget_run h1]
    rfl
  · rename_i m e _ _ _ _ κ l k i hti
    obtain ⟨d, hu, hd, _⟩ := (hΓ.ty _ _ hti).under
    obtain rfl := dok_arr hd
    split at he
    · rename_i te hte
      have hT := hΓ.ty _ _ hte
      split at he
      · rename_i hsz
        obtain ⟨h1, h2⟩ := den_ifb he
        simp only [Bool.and_eq_true, decide_eq_true_eq] at h1
        obtain ⟨h3, h4⟩ := inB_spec h1.1
        cases hy
        cases hx with
        | arv _ _ cs hcs =>
        have hi : i.toNat < l.length := by omega
        have hget := getD_of (d := κ.dflt) hi
        have h4' : i < (m : Int) := by omega
        have hpart : VReps β (κ.cells (l.getD i.toNat κ.dflt)) ((cs.toList.drop (i.toNat * κ.size)).take κ.size) := by
          have := (hcs.drop (i.toNat * κ.size)).take κ.size
          have e2 : ((l.flatMap κ.cells).drop (i.toNat * κ.size)).take κ.size = κ.cells (l.getD i.toNat κ.dflt) := by
            rw [← flat_drop, show κ.size = 1 * κ.size by omega, ← flat_take]
            have : (l.drop i.toNat).take 1 = [l.getD i.toNat κ.dflt] := by
              rw [List.getD_eq_getElem?_getD, List.getElem?_eq_getElem hi, List.drop_eq_getElem_cons hi]; rfl
            rw [this]; simp
          rw [e2] at this
          exact this
        have hrun : (Instr.index t (.agg cs) (.int k i)).run P w = (part e cs (i.toNat * κ.size)).run P w := by
          unfold Instr.index
          simp [hu, asIntOf, h3, h4', hT.sizeOf w, hsz]
        refine RunsTo.eq hrun ?_
        unfold part
        split at h2
        · rename_i ha
          rw [← den_ret h2]
          refine RunsTo.of (u := .agg (cs.extract (i.toNat * κ.size) (i.toNat * κ.size + κ.size))) ?_ (.agg _ _ (by simpa [List.extract_eq_take_drop, List.drop_take] using hpart))
          simp [hT.isAgg w, ha, hT.sizeOf w, hsz]
        · rename_i ha
          split at h2
          · rename_i h1'
            rw [← den_ret h2]
            obtain ⟨u, hus, hv⟩ := hpart.val h1'
            refine RunsTo.of (u := u) ?_ hv
            have hu' : cs[i.toNat * κ.size]? = some u := by
              have := congrArg (fun l => l[0]?) hus
              simpa [List.getElem?_take, h1'] using this
            have ha' : te.isAgg = false := by simpa using ha
            simp [hT.isAgg w, ha', hu']
          · exact (den_fail h2).elim
      · exact (den_fail he).elim
    · exact (den_fail he).elim
  · exact (den_fail he).elim
end
end Go.Ab

/-
  Operations that turn no memory that was there. Part 6: slices of slices, literals, new blocks, builtins.
-/
namespace Go.Ab
open Go.RowKit

inductive ORep (β : Bt) : Option AV → Option Value → Prop
  | none : ORep β none none
  | some (v : AV) (u : Value) : VRep β v u → ORep β (some v) (some u)

section
variable {P : Program} {Γ : Ctx} {β : Bt} {g h : Heap} {w : World} {base : Nat}

theorem sliceBound_run {k : IntKind} {i : Int} {n : Nat} (c : BoundsCode) (h0 : 0 ≤ i) (h1 : i ≤ (n : Int)) (w : World) : (Instr.sliceBound (.int k i) n c).run P w = .ok i.toNat w := by
  unfold Instr.sliceBound
  simp [asIntOf, h0, h1]

inductive LoB : Option Value → Nat → Nat → Prop
  | none (r : Nat) : LoB none r 0
  | some (k : IntKind) (i : Int) (r : Nat) : 0 ≤ i → i ≤ (r : Int) → LoB (some (.int k i)) r i.toNat
inductive HiB : Option Value → Nat → Nat → Prop
  | none (n : Nat) : HiB none n n
  | some (k : IntKind) (i : Int) (n : Nat) : 0 ≤ i → i ≤ (n : Int) → HiB (some (.int k i)) n i.toNat

theorem LoB.le {lo : Option Value} {r l : Nat} (h : LoB lo r l) : l ≤ r := by cases h <;> omega
theorem HiB.le {hi : Option Value} {r n : Nat} (h : HiB hi n r) : r ≤ n := by cases h <;> omega

theorem bounds_run (b : Bool) {lo hi : Option Value} {n c l r : Nat} (hnc : n ≤ c) (hl : LoB lo r l) (hr : HiB hi n r) (w : World) :
    (Instr.sliceBounds b n c lo hi none).run P w = .ok (l, r, c) w := by
  unfold Instr.sliceBounds
  cases hr with
  | none =>
    cases hl with
    | none => rfl
    | some k i _ h1 h2 => simp [sliceBound_run (P := P) _ h1 h2]
  | some k i _ h3 h4 =>
    have h4' : i ≤ (c : Int) := Int.le_trans h4 (Int.ofNat_le.2 hnc)
    cases hl with
    | none => simp [sliceBound_run (P := P) _ h3 h4']
    | some k i _ h1 h2 => simp [sliceBound_run (P := P) _ h3 h4', sliceBound_run (P := P) _ h1 h2]

/-- a slice of a slice that lies there -/
theorem slcOk_sub {l : Loc} {off len cap : Nat} {a : Option Addr} (hok : SlcOk l off len a cap) {x y : Nat} (hxy : x ≤ y) (hy : y ≤ len) :
    SlcOk l (off + x) (y - x) (if cap = x then a else a.map (·.add (x * l.es))) (cap - x) := by
  obtain ⟨h1, h2⟩ := hok
  refine ⟨by omega, ?_⟩
  rcases h2 with ⟨h2, h3⟩ | ⟨h2, h3, h4⟩
  · exact .inl ⟨by omega, fun h => by have := h3 h; omega⟩
  · by_cases hc : cap = x
    · exact .inl ⟨by omega, fun _ => by omega⟩
    · refine .inr ⟨?_, by omega, fun ho => ?_⟩
      · rw [if_neg hc, h2]
        simp only [Option.map_some, addr_add, Nat.add_mul, Nat.add_assoc]
      · have := h4 ho
        rw [show off + x + (cap - x) = off + cap by omega]; exact this

theorem sliceA_run (hΓ : TysOk P Γ) (hs : Sub g h) (hr : Rep β h w base) (t : Nat) (p : AV) (lo hi mx : Option AV) (hio mxo : Option Operand) (x : Value) (lo' hi' mx' : Option Value)
    (hx : VRep β p x) (hlo : ORep β lo lo') (hhi : ORep β hi hi') (hmx : ORep β mx mx')
    (hz1 : isZeroC hio = true → ∃ k, hi' = some (.int k 0)) (hz2 : isZeroC mxo = true → ∃ k, mx' = some (.int k 0))
    (v : AV) (he : (sliceA Γ g t p lo hi mx hio mxo).den = some v) : RunsTo P (Instr.sliceAt t x lo' hi' mx') w (VRep β v) := by
  unfold sliceA at he
  split at he
  · -- strings
    rename_i s hti
    obtain ⟨d, hu, hd, _⟩ := (hΓ.ty _ _ hti).under
    obtain rfl := dok_str hd
    cases hx
    have fin : ∀ l r, LoB lo' r l → HiB hi' s.size r → mx' = none → v = .str (s.extract l r) → RunsTo P (Instr.sliceAt t (.string s) lo' hi' mx') w (VRep β v) := by
      intro l r h1 h1' h2 h3
      subst h2 h3
      refine RunsTo.of (u := .string (s.extract l r)) ?_ (.str _)
      unfold Instr.sliceAt Instr.slice
      simp [hu, bounds_run (P := P) false (Nat.le_refl _) h1 h1' w]
    split at he
    · cases hlo; cases hhi; cases hmx
      exact fin 0 s.size (.none _) (.none _) rfl (den_ret he).symm
    · cases hlo with
      | some _ _ hlo =>
      cases hlo; cases hhi; cases hmx
      obtain ⟨h1, h2⟩ := den_ifb he
      simp only [Bool.and_eq_true, decide_eq_true_eq] at h1
      exact fin _ s.size (.some _ _ _ h1.1 h1.2) (.none _) rfl (den_ret h2).symm
    · cases hhi with
      | some _ _ hhi =>
      cases hhi; cases hlo; cases hmx
      obtain ⟨h1, h2⟩ := den_ifb he
      simp only [Bool.and_eq_true, decide_eq_true_eq] at h1
      exact fin 0 _ (.none _) (.some _ _ _ h1.1 h1.2) rfl (den_ret h2).symm
    · cases hhi with
      | some _ _ hhi =>
      cases hlo with
      | some _ _ hlo =>
      cases hhi; cases hlo; cases hmx
      obtain ⟨h1, h2⟩ := den_ifb he
      simp only [Bool.and_eq_true, decide_eq_true_eq] at h1
      exact fin _ _ (.some _ _ _ h1.2.1 (by have := h1.2.2; omega)) (.some _ _ _ h1.1.1 h1.1.2) rfl (den_ret h2).symm
    · exact (den_fail he).elim
  · -- slices
    rename_i e _ _ _ _ hti
    obtain ⟨d, hu, hd, _⟩ := (hΓ.ty _ _ hti).under
    obtain rfl := dok_slc hd
    dsimp only at he
    split at he
    · rename_i hc
      simp only [Bool.and_eq_true] at hc
      obtain ⟨⟨hc1, hc2⟩, hc3⟩ := hc
      obtain ⟨k1, rfl⟩ := hz1 hc2
      obtain ⟨k2, rfl⟩ := hz2 hc3
      have hlo' : lo' = none := by cases hlo with | none => rfl | some v u _ => simp at hc1
      subst hlo'
      have key : ∀ a len cap, (sizeOf e).run P w = .ok (sizeOfA Γ e) w → RunsTo P (Instr.sliceAt t (.slice a len cap) none (some (.int k1 0)) (some (.int k2 0))) w (VRep β (.nils none)) ∧ ∀ κ, RunsTo P (Instr.sliceAt t (.slice a len cap) none (some (.int k1 0)) (some (.int k2 0))) w (VRep β (.nils κ)) := by
        intro a len cap hsz
        have hrun : (Instr.sliceAt t (.slice a len cap) none (some (.int k1 0)) (some (.int k2 0))).run P w = .ok (.slice a 0 0) w := by
          unfold Instr.sliceAt Instr.slice Instr.sliceBounds
          simp [hu, sliceBound_run (P := P) (n := cap) _ (Int.le_refl 0) (Int.natCast_nonneg _), sliceBound_run (P := P) (n := 0) (i := 0) _ (Int.le_refl 0) (Int.le_refl _), hsz]
        exact ⟨RunsTo.of hrun (.nils _ _), fun κ => RunsTo.of hrun (.nils _ _)⟩
      split at he
      · rename_i hsz0
        have hsz := sizeOfA_run (P := P) hΓ hsz0 w
        split at he
        · cases hx with | slc _ _ _ l a cap hl hok => rw [← den_ret he]; exact (key a _ cap hsz).1
        · cases hx with | nils _ a => rw [← den_ret he]; exact (key a 0 0 hsz).2 _
        · exact (den_fail he).elim
      · exact (den_fail he).elim
    · have fin : ∀ n off len l r, x = x → VRep β (.slc n off len) x → LoB lo' r l → HiB hi' len r → mx' = none → (sizeOf e).run P w = .ok (sizeOfA Γ e) w → (∀ loc, β n = some loc → loc.es = sizeOfA Γ e ∨ l = 0) →
          RunsTo P (Instr.sliceAt t x lo' hi' mx') w (VRep β (.slc n (off + l) (r - l))) := by
        intro n off len l r _ hx h1 h2 h3 hsz hes
        subst h3
        cases hx with
        | slc n off len loc a cap hl hok =>
        have hnc : len ≤ cap := by obtain ⟨_, h2⟩ := hok; rcases h2 with ⟨h2, _⟩ | h2 <;> omega
        have hrun : (Instr.sliceAt t (.slice a len cap) lo' hi' none).run P w = .ok (.slice (if cap = l then a else a.map (·.add (l * sizeOfA Γ e))) (r - l) (cap - l)) w := by
          unfold Instr.sliceAt Instr.slice
          simp [hu, bounds_run (P := P) true hnc h1 h2 w, hsz]
        refine RunsTo.of hrun ?_
        have hsub := slcOk_sub hok h1.le h2.le
        have ha : (if cap = l then a else a.map (·.add (l * sizeOfA Γ e))) = (if cap = l then a else a.map (·.add (l * loc.es))) := by
          rcases hes loc hl with he | he
          · rw [he]
          · subst he; simp
        rw [ha]
        exact .slc _ _ _ _ _ _ hl hsub
      have fin2 : ∀ n off len l r (T0 : T AV), ((match hget g n with | some (.arr _ κ _) => if sizeOfA Γ e = κ.size then T0 else .fail | _ => .fail) : T AV).den = some v → (T0.den = some v → v = .slc n (off + l) (r - l) ∧ LoB lo' r l ∧ HiB hi' len r) → VRep β (.slc n off len) x → mx' = none →
          RunsTo P (Instr.sliceAt t x lo' hi' mx') w (VRep β v) := by
        intro n off len l r T0 hT himp hx' hm
        split at hT
        · rename_i o κ cl hg
          split at hT
          · rename_i hsz0
            obtain ⟨rfl, h1, h2⟩ := himp hT
            refine fin n off len l r rfl hx' h1 h2 hm (sizeOfA_run (P := P) hΓ (by rw [hsz0]; exact Nat.ne_of_gt κ.size_pos) w) (fun loc hl => .inl ?_)
            rw [hsz0]
            exact (hr.get (hs _ _ hg) trivial hl).es
          · exact (den_fail hT).elim
        · exact (den_fail hT).elim
      split at he
      · -- no bounds
        cases hlo; cases hhi; cases hmx
        split at he
        · rename_i hsz0
          have hsz := sizeOfA_run (P := P) hΓ hsz0 w
          rw [← den_ret he]
          have := fin _ _ _ 0 _ rfl hx (.none _) (.none _) rfl hsz (fun _ _ => .inr rfl)
          simpa using this
        · exact (den_fail he).elim
      · cases hlo with
        | some _ _ hlo =>
        cases hlo; cases hhi; cases hmx
        rename_i n off len k l _
        refine fin2 n off len l.toNat len _ he (fun h2 => ?_) hx rfl
        obtain ⟨h1, h2⟩ := den_ifb h2
        simp only [Bool.and_eq_true, decide_eq_true_eq] at h1
        exact ⟨(den_ret h2).symm, .some _ _ _ h1.1 h1.2, .none _⟩
      · cases hhi with
        | some _ _ hhi =>
        cases hhi; cases hlo; cases hmx
        rename_i n off len k r _
        refine fin2 n off len 0 r.toNat _ he (fun h2 => ?_) hx rfl
        obtain ⟨h1, h2⟩ := den_ifb h2
        simp only [Bool.and_eq_true, decide_eq_true_eq] at h1
        exact ⟨(den_ret h2).symm, .none _, .some _ _ _ h1.1 h1.2⟩
      · cases hhi with
        | some _ _ hhi =>
        cases hlo with
        | some _ _ hlo =>
        cases hhi; cases hlo; cases hmx
        rename_i n off len k l k' r _
        refine fin2 n off len l.toNat r.toNat _ he (fun h2 => ?_) hx rfl
        obtain ⟨h1, h2⟩ := den_ifb h2
        simp only [Bool.and_eq_true, decide_eq_true_eq] at h1
        exact ⟨(den_ret h2).symm, .some _ _ _ h1.2.1 (by have := h1.2.2; omega), .some _ _ _ h1.1.1 h1.1.2⟩
      · exact (den_fail he).elim
  · exact (den_fail he).elim
end
end Go.Ab

/-
  Operations that turn no memory that was there. Part 7: literals, new blocks, builtins.
-/
namespace Go.Ab
open Go.RowKit

theorem splice_length (l : List AV) (i : Nat) (vs : List AV) (h : i + vs.length ≤ l.length) : (splice l i vs).length = l.length := by
  unfold splice; simp only [List.length_append, List.length_take, List.length_drop]; omega

theorem VReps.splice {β : Bt} {l : List AV} {us : List Value} (h : VReps β l us) {vs : List AV} {ws : List Value} (h' : VReps β vs ws) (i : Nat) :
    VReps β (splice l i vs) (us.take i ++ ws ++ us.drop (i + ws.length)) := by
  unfold Go.Ab.splice
  rw [← h'.length]
  exact ((h.take i).append h').append (h.drop _)

/-- how the model lays a part into a row -/
theorem lay_part : ∀ (cs : List Value) (k off : Nat) (cells : Array Value), off + k + cs.length ≤ cells.size →
    ((cs.zipIdx k).foldl (fun a (c, j) => a.setIfInBounds (off + j) c) cells).toList = cells.toList.take (off + k) ++ cs ++ cells.toList.drop (off + k + cs.length)
  | [], k, off, cells, _ => by simp
  | c :: r, k, off, cells, h => by
    rw [List.zipIdx_cons, List.foldl_cons, lay_part r (k + 1) off _ (by simp only [Array.size_setIfInBounds]; simp only [List.length_cons] at h; omega)]
    simp only [Array.toList_setIfInBounds, List.length_cons] at h ⊢
    have hsz : off + k < cells.toList.length := by simp; omega
    have hlen : (cells.toList.take (off + k)).length = off + k := by rw [List.length_take]; omega
    have e1 : off + (k + 1) = (off + k) + 1 := by omega
    have e3 : off + k + (r.length + 1) = (off + k) + 1 + r.length := by omega
    rw [e1, e3, List.set_eq_take_append_cons_drop, if_pos hsz]
    generalize hA : cells.toList.take (off + k) = A at hlen ⊢
    have h1 : (A ++ c :: cells.toList.drop (off + k + 1)).take (off + k + 1) = A ++ [c] := by
      rw [List.take_append, hlen, List.take_of_length_le (by omega), show off + k + 1 - (off + k) = 1 by omega]; rfl
    have h2 : (A ++ c :: cells.toList.drop (off + k + 1)).drop (off + k + 1 + r.length) = cells.toList.drop (off + k + 1 + r.length) := by
      rw [List.drop_append, hlen, List.drop_eq_nil_of_le (by omega), show off + k + 1 + r.length - (off + k) = r.length + 1 by omega, List.drop_succ_cons, List.drop_drop, List.nil_append]
    rw [h1, h2]
    simp

theorem fill_rep {β : Bt} (place : Nat → Option (Nat × Nat)) : ∀ (ps : List (Nat × AV)) (qs : List (Nat × Value)) (l : List AV) (cells : Array Value) (r : List AV),
    ps.length = qs.length → (∀ (j : Nat) (p : Nat × AV) (q : Nat × Value), ps[j]? = some p → qs[j]? = some q → p.1 = q.1 ∧ VRep β p.2 q.2) → VReps β l cells.toList → fillA place l ps = some r →
    ∃ r', Instr.fill place cells qs = some r' ∧ VReps β r r'.toList
  | [], [], l, cells, r, _, _, hl, he => by
    simp only [fillA, Option.some.injEq] at he
    subst he
    exact ⟨cells, rfl, hl⟩
  | [], _ :: _, _, _, _, h, _, _, _ => by simp at h
  | _ :: _, [], _, _, _, h, _, _, _ => by simp at h
  | (i, v) :: ps, (i', u) :: qs, l, cells, r, hlen, hpq, hl, he => by
    obtain ⟨hi, hv⟩ := hpq 0 _ _ rfl rfl
    simp only at hi hv
    subst hi
    have hpq' : ∀ (j : Nat) (p : Nat × AV) (q : Nat × Value), ps[j]? = some p → qs[j]? = some q → p.1 = q.1 ∧ VRep β p.2 q.2 := fun j p q hp hq => hpq (j + 1) p q (by simpa using hp) (by simpa using hq)
    have hlen' : ps.length = qs.length := by simpa using hlen
    have hcl : l.length = cells.size := by simpa using hl.length
    unfold fillA at he
    unfold Instr.fill
    split at he
    · cases he
    · rename_i off size hp
      rw [hp]
      have step : ∀ (vs : List AV), VReps β vs u.cells.toList → vs.length = size → off + size ≤ l.length → fillA place (splice l off vs) ps = some r →
          ∃ r', (if (decide (u.cells.size ≠ size) || decide (off + u.cells.size > cells.size)) = true then none else Instr.fill place (u.cells.zipIdx.foldl (fun cs (c, j) => cs.setIfInBounds (off + j) c) cells) qs) = some r' ∧ VReps β r r'.toList := by
        intro vs hvs hsz hle he
        have h1 : u.cells.size = size := by have := hvs.length; simp at this; omega
        have h2 : ¬ ((decide (u.cells.size ≠ size) || decide (off + u.cells.size > cells.size)) = true) := by simp; omega
        simp only [h2, if_false]
        refine fill_rep place ps qs _ _ r hlen' hpq' ?_ he
        have h3 : (u.cells.zipIdx.foldl (fun cs (c, j) => cs.setIfInBounds (off + j) c) cells) = ((u.cells.toList.zipIdx 0).foldl (fun a (c, j) => a.setIfInBounds (off + j) c) cells) := by
          rw [← Array.foldl_toList, Array.toList_zipIdx]
        rw [h3, lay_part u.cells.toList 0 off cells (by simp; omega), Nat.add_zero]
        exact hl.splice hvs off
      split at he
      · split at he
        · rename_i hc
          cases hv with
          | agg _ cs hcs => exact step _ hcs hc.1 hc.2 he
        · cases he
      · cases he
      · cases he
      · cases he
      · rename_i n1 n2 n3 n4
        split at he
        · rename_i hc
          refine step [v] ?_ (by simp [hc.1]) (by rw [hc.1]; exact hc.2) he
          cases hv with
          | top u => exact absurd rfl n2
          | agg l cs h => exact absurd rfl (n1 _)
          | arv κ l cs h => exact absurd rfl (n4 _ _)
          | tup l cs h => exact absurd rfl (n3 _)
          | bl b => exact VReps.one (.bl b)
          | bs b => exact VReps.one (.bs b)
          | int k n => exact VReps.one (.int k n)
          | flt k x b h => exact VReps.one (.flt k x b h)
          | cpx k x y a b h h' => exact VReps.one (.cpx k x y a b h h')
          | str s => exact VReps.one (.str s)
          | nilp => exact VReps.one .nilp
          | ptr n i c l h h1 h2 => exact VReps.one (.ptr n i c l h h1 h2)
          | slc n o m l a cap h h1 => exact VReps.one (.slc n o m l a cap h h1)
          | nils κ a => exact VReps.one (.nils κ a)
          | fn f a b a' b' h h' => exact VReps.one (.fn f a b a' b' h h')
        · cases he
end Go.Ab

/-
  Operations that turn no memory that was there. Part 8: literals, new blocks, builtins.
-/
namespace Go.Ab
open Go.RowKit

section
variable {P : Program} {Γ : Ctx} {β : Bt} {w : World}

theorem fldPlaces_run (hΓ : TysOk P Γ) : ∀ (fs : List Field) (pl : List (Nat × Nat)), fldPlaces Γ (fs.map fun f => (f.type, f.offset)) = some pl →
    (fs.mapM (m := Sem) fun f => do pure (f.offset, ← sizeOf f.type)).run P w = .ok pl w
  | [], pl, h => by simp only [List.map_nil, fldPlaces, Option.some.injEq] at h; subst h; rfl
  | f :: r, pl, h => by
    simp only [List.map_cons, fldPlaces] at h
    split at h
    · rename_i ti l hti hl
      cases h
      rw [List.mapM_cons]
      have ih := fldPlaces_run hΓ r l hl
      simp only [Sem.run_bind, (hΓ.ty _ _ hti).sizeOf w, Result.andThen_ok, Sem.run_pure]
      rw [ih]; rfl
    · cases h

theorem buildA_run (hΓ : TysOk P Γ) (t : Nat) (ps : List (Nat × AV)) (qs : Array (Nat × Value)) (hlen : ps.length = qs.size)
    (hpq : ∀ (j : Nat) (p : Nat × AV) (q : Nat × Value), ps[j]? = some p → qs[j]? = some q → p.1 = q.1 ∧ VRep β p.2 q.2) (v : AV) (he : (buildA Γ t ps).den = some v) :
    RunsTo P (Instr.build t qs) w (VRep β v) := by
  have hpq' : ∀ (j : Nat) (p : Nat × AV) (q : Nat × Value), ps[j]? = some p → qs.toList[j]? = some q → p.1 = q.1 ∧ VRep β p.2 q.2 := fun j p q h1 h2 => hpq j p q h1 (by simpa using h2)
  unfold buildA at he
  split at he
  · rename_i fs _ _ z _ hti
    have hT := hΓ.ty _ _ hti
    obtain ⟨d, hu, hd, _⟩ := hT.under
    obtain ⟨fs', rfl, hfs⟩ := dok_struct hd
    obtain ⟨zv, hz1, hz2, _⟩ := hT.zero
    split at he
    · rename_i pl hpl
      split at he
      · rename_i l hl
        rw [← den_ret he]
        rw [hfs] at hpl
        have hm := fldPlaces_run (w := w) hΓ fs'.toList pl hpl
        obtain ⟨r', h1, h2⟩ := fill_rep (β := β) (pl[·]?) ps qs.toList z zv.cells l (by simpa using hlen) hpq' (hz2 β) hl
        refine RunsTo.of (u := .agg r') ?_ (.agg _ _ h2)
        unfold Instr.build
        have hm' : (fs'.mapM (m := Sem) fun f => do pure (f.offset, ← sizeOf f.type)).run P w = .ok pl.toArray w := by
          rw [Array.mapM_eq_mapM_toList, Sem.run_map, hm]; rfl
        simp only [Sem.run_bind, hz1, Result.andThen_ok, hu, hm']
        have h1' : Instr.fill (fun x => pl.toArray[x]?) zv.cells qs.toList = some r' := by simpa using h1
        simp only [h1']; rfl
      · exact (den_fail he).elim
    · exact (den_fail he).elim
  · rename_i n e _ _ z _ hti
    have hT := hΓ.ty _ _ hti
    obtain ⟨d, hu, hd, _⟩ := hT.under
    obtain rfl := dok_arr hd
    obtain ⟨zv, hz1, hz2, _⟩ := hT.zero
    split at he
    · rename_i te hte
      split at he
      · rename_i l hl
        rw [← den_ret he]
        obtain ⟨r', h1, h2⟩ := fill_rep (β := β) (fun i => some (i * te.size, te.size)) ps qs.toList z zv.cells l (by simpa using hlen) hpq' (hz2 β) hl
        refine RunsTo.of (u := .agg r') ?_ (.agg _ _ h2)
        unfold Instr.build
        simp only [Sem.run_bind, hz1, Result.andThen_ok, hu, (hΓ.ty _ _ hte).sizeOf w]
        simp only [h1]; rfl
      · exact (den_fail he).elim
    · exact (den_fail he).elim
  · exact (den_fail he).elim

/-! ### New rows -/
theorem hget_cons_self (n : Nat) (b : Blk) (d : Heap) : hget ((n, b) :: d) n = some b := by
  show cond (Nat.beq n n) _ _ = _
  rw [Nat.beq_refl]; rfl

theorem hget_cons_ne {n m : Nat} (b : Blk) (d : Heap) (h : n ≠ m) : hget ((n, b) :: d) m = hget d m := by
  show cond (Nat.beq n m) _ _ = _
  have : Nat.beq n m = false := by
    cases hb : Nat.beq n m with
    | false => rfl
    | true => exact absurd (Nat.eq_of_beq_eq_true hb) h
  rw [this]; rfl

/-- the place of a block of nothing -/
def phLoc (b : Blk) : Loc := ⟨0, 0, 0, b.len, b.es, true⟩

/-- places for a new row and for blocks of nothing -/
def extB (β : Bt) (d : Heap) (nm : Nat) (l : Loc) : Bt := fun n => if n = nm then some l else match hget d n with | some b => some (phLoc b) | none => β n

def isPh (d : Heap) : Prop := ∀ n b, hget d n = some b → ∃ κ, b = .arr true κ []

theorem frozen_new (w : World) (cs : Array Value) (e : Nat) (o : Nat) : ({ w with heap := w.heap.push (.cells cs e) } : World).frozen? ⟨w.heap.size, o, none⟩ = false := by
  simp [World.frozen?]

theorem cell_new (w : World) (cs : Array Value) (e : Nat) (o : Nat) : ({ w with heap := w.heap.push (.cells cs e) } : World).cell? ⟨w.heap.size, o, none⟩ = cs[o]? := by
  simp [World.cell?]

theorem below_push (w : World) (o : Obj) : Below w.heap.size w { w with heap := w.heap.push o } :=
  ⟨rfl, rfl, rfl, by simp, fun k hk => by simp [Array.getElem?_push, Nat.ne_of_lt hk]⟩

/-- A new row: its block, and blocks of nothing beside it. -/
theorem newRow_post (nm : Nat) (b : Blk) (d : Heap) (us : Array Value) (e : Nat) (hd : isPh d) (hnm : hget d nm = none) (hβ : ∀ n, n = nm ∨ (∃ c, hget d n = some c) → β n = none)
    (hb : b.live) (ho : b.own = true) (v : AV) (u : Value)
    (hcells : ∀ l : Loc, l.len = b.len → l.es = b.es → VReps (extB β d nm l) b.cl us.toList)
    (hv : VRep (extB β d nm ⟨w.heap.size, 0, us.size, b.len, b.es, true⟩) v u) :
    AddPost β w v ((nm, b) :: d) u { w with heap := w.heap.push (.cells us e) } := by
  let l : Loc := ⟨w.heap.size, 0, us.size, b.len, b.es, true⟩
  have hle : β.le (extB β d nm l) := by
    intro n l' h
    unfold extB
    by_cases hn : n = nm
    · rw [hβ n (.inl hn)] at h; cases h
    · rw [if_neg hn]
      cases hg : hget d n with
      | none => exact h
      | some c => rw [hβ n (.inr ⟨c, hg⟩)] at h; cases h
  have hc := hcells l rfl rfl
  have hcl : b.cl.length = us.size := by simpa using hc.length
  refine ⟨extB β d nm l, hle, below_push _ _, hv, fun n hn => ?_, ?_, ?_⟩
  · unfold extB
    by_cases h : n = nm
    · subst h; rw [hget_cons_self] at hn; cases hn
    · rw [if_neg h]
      rw [hget_cons_ne _ _ (Ne.symm h)] at hn
      rw [hn]
  · intro n c hn
    by_cases h : n = nm
    · subst h
      rw [hget_cons_self] at hn
      cases hn
      refine ⟨hb, ho, l, by unfold extB; rw [if_pos rfl], ⟨ho.symm, rfl, rfl, ?_, fun _ _ => ⟨Nat.le_refl _, ⟨us, e, (0, 0), by simp [l], rfl⟩, fun o _ => frozen_new _ _ _ _⟩, fun _ => by rw [b.cl_length] at hcl; show 0 + b.len * b.es ≤ us.size; omega, fun h => by rw [ho] at h; cases h⟩⟩
      intro j x hj
      obtain ⟨u', hu', hx⟩ := hc.get j hj
      refine ⟨u', ?_, hx⟩
      have := cell_new w us e (0 + j)
      rw [this, Nat.zero_add]; simpa using hu'
    · rw [hget_cons_ne _ _ (Ne.symm h)] at hn
      obtain ⟨κ, rfl⟩ := hd n c hn
      refine ⟨trivial, rfl, phLoc (.arr true κ []), by unfold extB; rw [if_neg h, hn], ⟨rfl, rfl, rfl, fun j x hj => by simp [Blk.cl] at hj, fun _ h => by simp [phLoc] at h, fun _ => by simp [phLoc, Blk.len], fun h => by cases h⟩⟩
  · intro n m c c' l1 l2 hne hn hm h1 h2 h3 h4 heq
    have one : ∀ n c l1, hget ((nm, b) :: d) n = some c → extB β d nm l n = some l1 → 0 < l1.size → n = nm := by
      intro n c l1 hn h1 h3
      by_cases h : n = nm
      · exact h
      · rw [hget_cons_ne _ _ (Ne.symm h)] at hn
        unfold extB at h1
        rw [if_neg h, hn] at h1
        cases h1
        simp [phLoc] at h3
    exact hne ((one n c l1 hn h1 h3).trans (one m c' l2 hm h2 h4).symm)

theorem EK.of_bool {vs : List AV} {x : Bool} (h : EK.bool.of vs = some x) : vs = [.bs x] ∨ vs = [.bl x] := by
  match vs, h with
  | [.bs b], h => cases h; exact .inl rfl
  | [.bl b], h => cases h; exact .inr rfl

theorem EK.of_int {k : IntKind} {vs : List AV} {x : Int} (h : (EK.int k).of vs = some x) : vs = [.int k x] := by
  match vs, h with
  | [.int k' n], h =>
    have h' : (if k' = k then some n else none) = some x := h
    split at h'
    · rename_i e; cases h'; rw [e]
    · cases h'

theorem EK.of_flt {k : FloatKind} {vs : List AV} {x : Fl k} (h : (EK.flt k).of vs = some x) : vs = [.flt k x] := by
  match vs, h with
  | [.flt k' y], h =>
    have h' : (if e : k' = k then some (e ▸ y) else none) = some x := h
    split at h'
    · rename_i e; subst e; cases h'; rfl
    · cases h'

theorem EK.of_cpx {k : FloatKind} {vs : List AV} {x : Fl k × Fl k} (h : (EK.cpx k).of vs = some x) : vs = [.cpx k x.1 x.2] := by
  match vs, h with
  | [.cpx k' y z], h =>
    have h' : (if e : k' = k then some ((e ▸ y, e ▸ z) : Fl k × Fl k) else none) = some x := h
    split at h'
    · rename_i e; subst e; cases h'; rfl
    · cases h'

theorem EK.of_str {vs : List AV} {x : ByteArray} (h : EK.str.of vs = some x) : vs = [.str x] := by
  match vs, h with
  | [.str s], h => cases h; rfl

theorem EK.of_pair {a b : EK} {vs : List AV} {x : a.den × b.den} (h : (EK.pair a b).of vs = some x) : a.of (vs.take a.size) = some x.1 ∧ b.of (vs.drop a.size) = some x.2 := by
  have h' : (match a.of (vs.take a.size), b.of (vs.drop a.size) with | some x, some y => some ((x, y) : a.den × b.den) | _, _ => none) = some x := h
  split at h'
  · rename_i e1 e2; cases h'; exact ⟨e1, e2⟩
  · cases h'

theorem EK.of_rep : ∀ (κ : EK) (us : List Value) (vs : List AV) (x : κ.den), κ.of vs = some x → VReps β vs us → VReps β (κ.cells x) us
  | .bool, us, vs, x, h, hv => by
    rcases EK.of_bool h with rfl | rfl
    · exact hv
    · cases hv with | cons _ u _ s h1 h2 => cases h1; exact .cons _ _ _ _ (.bs _) h2
  | .int k, us, vs, x, h, hv => by rw [EK.of_int h] at hv; exact hv
  | .flt k, us, vs, x, h, hv => by rw [EK.of_flt h] at hv; exact hv
  | .cpx k, us, vs, x, h, hv => by rw [EK.of_cpx h] at hv; exact hv
  | .str, us, vs, x, h, hv => by rw [EK.of_str h] at hv; exact hv
  | .pair a b, us, vs, x, h, hv => by
    obtain ⟨h1, h2⟩ := EK.of_pair h
    have h3 := EK.of_rep a _ _ _ h1 (hv.take a.size)
    have h4 := EK.of_rep b _ _ _ h2 (hv.drop a.size)
    have := h3.append h4
    rwa [List.take_append_drop] at this

theorem chunks_rep (κ : EK) : ∀ (n : Nat) (vs : List AV) (l : List κ.den) (us : List Value), chunks κ n vs = some l → VReps β vs us → VReps β (l.flatMap κ.cells) us
  | 0, [], l, us, h, hv => by cases h; exact hv
  | n + 1, vs, l, us, h, hv => by
    have h' : (match κ.of (vs.take κ.size), chunks κ n (vs.drop κ.size) with | some x, some r => some (x :: r) | _, _ => none) = some l := h
    split at h'
    · rename_i x r e1 e2
      cases h'
      have h3 := EK.of_rep κ _ _ _ e1 (hv.take κ.size)
      have h4 := chunks_rep κ n _ _ _ e2 (hv.drop κ.size)
      have := h3.append h4
      rw [List.take_append_drop] at this
      rw [List.flatMap_cons]; exact this
    · cases h'

theorem chunks_length (κ : EK) : ∀ (n : Nat) (vs : List AV) (l : List κ.den), chunks κ n vs = some l → l.length = n
  | 0, [], l, h => by cases h; rfl
  | n + 1, vs, l, h => by
    have h' : (match κ.of (vs.take κ.size), chunks κ n (vs.drop κ.size) with | some x, some r => some (x :: r) | _, _ => none) = some l := h
    split at h'
    · rename_i x r e1 e2
      cases h'
      rw [List.length_cons, chunks_length κ n _ _ e2]
    · cases h'

/-- nil slices among the cells get names -/
theorem phant_rep (nb : Nat) : ∀ (j : Nat) (l l' : List AV) (d : Heap), phant nb j l = (l', d) →
    isPh d ∧ (∀ n b, hget d n = some b → nb + j ≤ n) ∧ l'.length = l.length ∧
    ∀ (β β' : Bt) (us : List Value), VReps β l us → β.le β' → (∀ n b, hget d n = some b → β' n = some (phLoc b)) → VReps β' l' us := by
  intro j l
  induction l generalizing j with
  | nil =>
    intro l' d h
    simp only [phant, Prod.mk.injEq] at h
    obtain ⟨rfl, rfl⟩ := h
    exact ⟨fun n b h => by simp [hget] at h, fun n b h => by simp [hget] at h, rfl, fun β β' us h _ _ => by cases h; exact .nil⟩
  | cons v r ih =>
    intro l' d h
    have other : ∀ (l1 : List AV) (d1 : Heap), phant nb j r = (l1, d1) → l' = v :: l1 → d = d1 → isPh d ∧ (∀ n b, hget d n = some b → nb + j ≤ n) ∧ l'.length = (v :: r).length ∧
        ∀ (β β' : Bt) (us : List Value), VReps β (v :: r) us → β.le β' → (∀ n b, hget d n = some b → β' n = some (phLoc b)) → VReps β' l' us := by
      intro l1 d1 h1 h2 h3
      subst h2 h3
      obtain ⟨i1, i2, i3, i4⟩ := ih j l1 d h1
      refine ⟨i1, i2, by simp [i3], fun β β' us hv hle hd => ?_⟩
      cases hv with
      | cons _ u _ s hv1 hv2 => exact .cons _ _ _ _ (hv1.mono hle) (i4 _ _ _ hv2 hle hd)
    match v, h, other with
    | .nils (some κ), h, _ =>
      generalize hq : phant nb (j + 1) r = q at *
      obtain ⟨l1, d1⟩ := q
      have h' : ((.slc (nb + j) 0 0 :: l1, (nb + j, .arr true κ []) :: d1) : List AV × Heap) = (l', d) := by
        rw [← h]; unfold phant; rw [hq]
      cases h'
      obtain ⟨i1, i2, i3, i4⟩ := ih (j + 1) l1 d1 hq
      refine ⟨fun n b hb => ?_, fun n b hb => ?_, by simp [i3], fun β β' us hv hle hd => ?_⟩
      · by_cases hn : nb + j = n
        · subst hn; rw [hget_cons_self] at hb; cases hb; exact ⟨κ, rfl⟩
        · rw [hget_cons_ne _ _ hn] at hb; exact i1 n b hb
      · by_cases hn : nb + j = n
        · omega
        · rw [hget_cons_ne _ _ hn] at hb; have := i2 n b hb; omega
      · cases hv with
        | cons _ u _ s hv1 hv2 =>
        refine .cons _ _ _ _ ?_ (i4 _ _ _ hv2 hle (fun n b hb => ?_))
        · cases hv1 with
          | nils _ a =>
          exact .slc _ _ _ (phLoc (.arr true κ [])) _ _ (hd _ _ (hget_cons_self _ _ _)) ⟨Nat.le_refl _, .inl ⟨rfl, fun _ => rfl⟩⟩
        · have := i2 n b hb
          exact hd n b (by rw [hget_cons_ne _ _ (by omega)]; exact hb)
    | .nils none, h, other => exact other _ _ rfl (congrArg Prod.fst h).symm (congrArg Prod.snd h).symm
    | .top, h, other => exact other _ _ rfl (congrArg Prod.fst h).symm (congrArg Prod.snd h).symm
    | .bl _, h, other => exact other _ _ rfl (congrArg Prod.fst h).symm (congrArg Prod.snd h).symm
    | .bs _, h, other => exact other _ _ rfl (congrArg Prod.fst h).symm (congrArg Prod.snd h).symm
    | .int _ _, h, other => exact other _ _ rfl (congrArg Prod.fst h).symm (congrArg Prod.snd h).symm
    | .flt _ _, h, other => exact other _ _ rfl (congrArg Prod.fst h).symm (congrArg Prod.snd h).symm
    | .cpx _ _ _, h, other => exact other _ _ rfl (congrArg Prod.fst h).symm (congrArg Prod.snd h).symm
    | .str _, h, other => exact other _ _ rfl (congrArg Prod.fst h).symm (congrArg Prod.snd h).symm
    | .nilp, h, other => exact other _ _ rfl (congrArg Prod.fst h).symm (congrArg Prod.snd h).symm
    | .ptr _ _ _, h, other => exact other _ _ rfl (congrArg Prod.fst h).symm (congrArg Prod.snd h).symm
    | .slc _ _ _, h, other => exact other _ _ rfl (congrArg Prod.fst h).symm (congrArg Prod.snd h).symm
    | .fn _ _ _, h, other => exact other _ _ rfl (congrArg Prod.fst h).symm (congrArg Prod.snd h).symm
    | .agg _, h, other => exact other _ _ rfl (congrArg Prod.fst h).symm (congrArg Prod.snd h).symm
    | .arv _ _, h, other => exact other _ _ rfl (congrArg Prod.fst h).symm (congrArg Prod.snd h).symm
    | .tup _, h, other => exact other _ _ rfl (congrArg Prod.fst h).symm (congrArg Prod.snd h).symm
end
end Go.Ab

/-
  Operations that turn no memory that was there. Part 9: new variables, new slices, builtins.
-/
namespace Go.Ab
open Go.RowKit

/-- the cells of a value that a variable is made of -/
inductive VCells (β : Bt) : AV → List Value → Prop
  | agg (l : List AV) (us : List Value) : VReps β l us → VCells β (.agg l) us
  | arv (κ : EK) (l : List κ.den) (us : List Value) : VReps β (l.flatMap κ.cells) us → VCells β (.arv κ l) us
  | one (v : AV) (u : Value) : (∀ l, v ≠ .agg l) → (∀ κ l, v ≠ .arv κ l) → VRep β v u → VCells β v [u]

theorem VRep.cells {β : Bt} {v : AV} {u : Value} (h : VRep β v u) (ht : v ≠ .top) (ht' : ∀ l, v ≠ .tup l) : VCells β v u.cells.toList := by
  cases h with
  | top => exact absurd rfl ht
  | tup l => exact absurd rfl (ht' l)
  | agg l cs h => exact .agg _ _ h
  | arv κ l cs h => exact .arv _ _ _ h
  | bl b => exact .one _ _ (fun _ h => by cases h) (fun _ _ h => by cases h) (.bl b)
  | bs b => exact .one _ _ (fun _ h => by cases h) (fun _ _ h => by cases h) (.bs b)
  | int k n => exact .one _ _ (fun _ h => by cases h) (fun _ _ h => by cases h) (.int k n)
  | flt k x b h => exact .one _ _ (fun _ h => by cases h) (fun _ _ h => by cases h) (.flt k x b h)
  | cpx k x y a b h h' => exact .one _ _ (fun _ h => by cases h) (fun _ _ h => by cases h) (.cpx k x y a b h h')
  | str s => exact .one _ _ (fun _ h => by cases h) (fun _ _ h => by cases h) (.str s)
  | nilp => exact .one _ _ (fun _ h => by cases h) (fun _ _ h => by cases h) .nilp
  | ptr n i c l h h1 h2 => exact .one _ _ (fun _ h => by cases h) (fun _ _ h => by cases h) (.ptr n i c l h h1 h2)
  | slc n o m l a cap h h1 => exact .one _ _ (fun _ h => by cases h) (fun _ _ h => by cases h) (.slc n o m l a cap h h1)
  | nils κ a => exact .one _ _ (fun _ h => by cases h) (fun _ _ h => by cases h) (.nils κ a)
  | fn f a b a' b' h h' => exact .one _ _ (fun _ h => by cases h) (fun _ _ h => by cases h) (.fn f a b a' b' h h')

section
variable {P : Program} {Γ : Ctx} {β : Bt} {w : World}

theorem isPh_nil : isPh [] := fun n b h => by simp [hget] at h

/-- The names of new blocks are new. -/
def FreshIn (β : Bt) (d : Heap) : Prop := (∀ n b, hget d n = some b → β n = none) ∧ ∀ n b d', d = (n, b) :: d' → hget d' n = none

theorem le_extB {d : Heap} {nm : Nat} {l : Loc} (h : ∀ n, n = nm ∨ (∃ c, hget d n = some c) → β n = none) : β.le (extB β d nm l) := by
  intro n l' hn
  unfold extB
  by_cases e : n = nm
  · rw [h n (.inl e)] at hn; cases hn
  · rw [if_neg e]
    cases hg : hget d n with
    | none => exact hn
    | some c => rw [h n (.inr ⟨c, hg⟩)] at hn; cases hn

theorem FreshIn.names {nm : Nat} {b : Blk} {d : Heap} (h : FreshIn β ((nm, b) :: d)) : ∀ n, n = nm ∨ (∃ c, hget d n = some c) → β n = none := by
  rintro n (rfl | ⟨c, hc⟩)
  · exact h.1 _ _ (hget_cons_self _ _ _)
  · by_cases e : nm = n
    · subst e; exact h.1 _ _ (hget_cons_self _ _ _)
    · exact h.1 n c (by rw [hget_cons_ne _ _ e]; exact hc)

theorem ptr_new {d : Heap} {nm : Nat} {l : Loc} (h1 : 0 < l.len) (h2 : 0 < l.es) (h3 : l.off = 0) : VRep (extB β d nm l) (.ptr nm 0 0) (.pointer (some ⟨l.blk, 0, none⟩)) := by
  have := VRep.ptr (β := extB β d nm l) nm 0 0 l (by unfold extB; rw [if_pos rfl]) h1 h2
  simpa [h3] using this

theorem newVarA_post (nm : Nat) (ti : TyI) (v : AV) (us : Array Value) (e : Nat) (hv : VCells β v us.toList) (r : AV × Heap) (he : (newVarA Γ nm ti v).den = some r) (hf : FreshIn β r.2) :
    AddPost β w r.1 r.2 (.pointer (some ⟨w.heap.size, 0, none⟩)) { w with heap := w.heap.push (.cells us e) } := by
  -- a row of elements
  have rowCase : ∀ (κ : EK) (l : List κ.den), 0 < l.length → r = (.ptr nm 0 0, [(nm, .arr true κ l)]) → VReps β (l.flatMap κ.cells) us.toList →
      AddPost β w r.1 r.2 (.pointer (some ⟨w.heap.size, 0, none⟩)) { w with heap := w.heap.push (.cells us e) } := by
    intro κ l hl hr hus
    subst hr
    have hn := hf.names
    refine newRow_post nm (.arr true κ l) [] us e isPh_nil rfl hn trivial rfl _ _ (fun loc _ _ => hus.mono (le_extB hn)) ?_
    exact ptr_new hl κ.size_pos rfl
  have valsCase : ∀ (cs : List AV), VReps β cs us.toList → cs.length ≠ 0 → r = (.ptr nm 0 0, (nm, .vals true (phant (nm * 1024 + 900) 0 cs).1) :: (phant (nm * 1024 + 900) 0 cs).2) →
      AddPost β w r.1 r.2 (.pointer (some ⟨w.heap.size, 0, none⟩)) { w with heap := w.heap.push (.cells us e) } := by
    intro cs hcs hlen hr
    subst hr
    obtain ⟨i1, _, i3, i4⟩ := phant_rep (nm * 1024 + 900) 0 cs _ _ rfl
    have hn := hf.names
    refine newRow_post nm (.vals true (phant (nm * 1024 + 900) 0 cs).1) _ us e i1 (hf.2 _ _ _ rfl) hn trivial rfl _ _ (fun loc _ _ => i4 _ _ _ hcs (le_extB hn) (fun n b hb => ?_)) ?_
    · unfold extB
      have : n ≠ nm := by rintro rfl; rw [hf.2 _ _ _ rfl] at hb; cases hb
      rw [if_neg this, hb]
    · refine ptr_new ?_ Nat.one_pos rfl
      show 0 < (phant (nm * 1024 + 900) 0 cs).1.length
      rw [i3]; omega
  unfold newVarA at he
  split at he
  · obtain ⟨h1, h2⟩ := den_ifb he
    generalize hul : us.toList = ul at hv
    cases hv with
    | arv _ _ _ hus => exact rowCase _ _ (of_decide_eq_true h1) (den_ret h2).symm (by rw [hul]; exact hus)
    | one v u _ h _ => exact absurd rfl (h _ _)
  · rename_i cs
    have hcs : VReps β cs us.toList := by
      generalize hul : us.toList = ul at hv ⊢
      cases hv with
      | agg l _ h => exact h
      | one v u h _ _ => exact absurd rfl (h _)
    split at he
    · split at he
      · rename_i κ hκ
        split at he
        · rename_i l hl
          split at he
          · exact (den_fail he).elim
          · rename_i hn0
            refine rowCase κ l ?_ (den_ret he).symm (chunks_rep κ _ _ _ _ hl hcs)
            rw [chunks_length κ _ _ _ hl]; omega
        · exact (den_fail he).elim
      · exact (den_fail he).elim
    · dsimp only at he
      split at he
      · exact (den_fail he).elim
      · rename_i hlen
        exact valsCase cs hcs hlen (den_ret he).symm
  · exact (den_fail he).elim
  · exact (den_fail he).elim
  · rename_i n1 n2 n3 n4
    split at he
    · exact (den_fail he).elim
    · have : VReps β [v] us.toList := by
        generalize hul : us.toList = ul at hv ⊢
        cases hv with
        | agg l _ h => exact absurd rfl (n2 _)
        | arv κ l _ h => exact absurd rfl (n1 _ _)
        | one v u _ _ h => exact VReps.one h
      exact valsCase [v] this (by simp) (den_ret he).symm

theorem repl_rep {z : List AV} {us : List Value} (hz : VReps β z us) : ∀ n : Nat, VReps β (repl z n) ((List.replicate n us).flatten)
  | 0 => .nil
  | n + 1 => by
    rw [List.replicate_succ, List.flatten_cons]
    exact hz.append (repl_rep hz n)

theorem flat_repl_get {α : Type} (l : List α) (h0 : 0 < l.length) : ∀ (n j : Nat), (List.replicate n l).flatten[j]? = if j < n * l.length then l[j % l.length]? else none
  | 0, j => by simp
  | n + 1, j => by
    rw [List.replicate_succ, List.flatten_cons, List.getElem?_append, Nat.succ_mul]
    by_cases h : j < l.length
    · rw [if_pos h, if_pos (by omega), Nat.mod_eq_of_lt h]
    · rw [if_neg h, flat_repl_get l h0 n]
      have h1 : (j - l.length) % l.length = j % l.length := (Nat.mod_eq_sub_mod (by omega)).symm
      by_cases h2 : j - l.length < n * l.length
      · rw [if_pos h2, if_pos (by omega), h1]
      · rw [if_neg h2, if_neg (by omega)]

/-- the zero cells of n elements, as the model lays them -/
theorem zeros_eq (z : Array Value) (s n : Nat) (hs : z.size = s) (h0 : 0 < s) :
    ((Array.range (n * s)).map fun i => z[i % z.size]!).toList = (List.replicate n z.toList).flatten := by
  subst hs
  apply List.ext_getElem?
  intro j
  rw [flat_repl_get _ (by simpa using h0)]
  simp only [Array.toList_map, Array.toList_range, List.getElem?_map, Array.length_toList]
  by_cases h : j < n * z.size
  · have hm := Nat.mod_lt j h0
    rw [List.getElem?_range h, if_pos h]
    simp [hm]
  · rw [if_neg h, List.getElem?_eq_none (by simpa using h)]; rfl

theorem buildSliceA_post (hΓ : TysOk P Γ) (nm t n : Nat) (ps : List (Nat × AV)) (qs : Array (Nat × Value)) (hlen : ps.length = qs.size)
    (hpq : ∀ (j : Nat) (p : Nat × AV) (q : Nat × Value), ps[j]? = some p → qs[j]? = some q → p.1 = q.1 ∧ VRep β p.2 q.2) (r : AV × Heap) (he : (buildSliceA Γ nm t n ps).den = some r) (hf : FreshIn β r.2) :
    ∃ u w', (Instr.buildSlice t n qs).run P w = .ok u w' ∧ AddPost β w r.1 r.2 u w' := by
  have hpq' : ∀ (j : Nat) (p : Nat × AV) (q : Nat × Value), ps[j]? = some p → qs.toList[j]? = some q → p.1 = q.1 ∧ VRep β p.2 q.2 := fun j p q h1 h2 => hpq j p q h1 (by simpa using h2)
  unfold buildSliceA at he
  split at he
  · rename_i e _ _ _ _ hti
    obtain ⟨d, hu, hd, _⟩ := (hΓ.ty _ _ hti).under
    obtain rfl := dok_slc hd
    split at he
    · rename_i te hte
      have hT := hΓ.ty _ _ hte
      obtain ⟨zv, hz1, hz2, hzs⟩ := hT.zero
      split at he
      · rename_i κ hκ
        split at he
        · rename_i hsz
          obtain ⟨hsz, hsm⟩ := hsz
          split at he
          · rename_i cs hcs
            split at he
            · rename_i l hl
              rw [← den_ret he] at hf ⊢
              have hp := κ.size_pos
              have hs0 : 0 < te.size := by omega
              have hz := repl_rep (hz2 β) n
              rw [← zeros_eq zv.cells te.size n hzs hs0] at hz
              obtain ⟨r', h1, h2⟩ := fill_rep (β := β) (fun i => some (i * te.size, te.size)) ps qs.toList _ _ cs (by simpa using hlen) hpq' hz hcs
              have h3 := chunks_rep κ _ _ _ _ hl h2
              have h4 := chunks_length κ _ _ _ hl
              have h5 : r'.size = n * κ.size := by have := h3.length; rw [flat_length, h4] at this; simpa using this.symm
              refine ⟨.slice (some ⟨w.heap.size, 0, none⟩) n n, { w with heap := w.heap.push (.cells r' e) }, ?_, ?_⟩
              · unfold Instr.buildSlice
                have hle : ¬ (n * te.size > 2 ^ 24) := by omega
                simp only [Sem.run_bind, hu, Result.andThen_ok, hT.sizeOf w, if_neg hle, Sem.run_pure]
                by_cases h0 : n * te.size = 0
                · rw [if_pos h0]
                  have h1' : Instr.fill (fun i => some (i * te.size, te.size)) ((Array.range (n * te.size)).map fun x => (#[] : Array Value)[x % (#[] : Array Value).size]!) qs.toList = some r' := by
                    rw [← h1, h0, show Array.range 0 = #[] by decide, Array.map_empty, Array.map_empty]
                  simp only [Sem.run_pure, Result.andThen_ok, h1', newRow, Sem.run_bind, run_newObj]
                · rw [if_neg h0]
                  simp only [Sem.run_bind, hz1, Result.andThen_ok, Sem.run_pure, h1, newRow, run_newObj]
              · by_cases hn0 : n = 0
                · subst hn0
                  exact .none (below_push w _) (.nils _ _)
                · rw [if_neg hn0] at hf ⊢
                  have hn := hf.names
                  refine newRow_post nm (.arr true κ l) [] r' e isPh_nil rfl hn trivial rfl _ _ (fun loc _ _ => h3.mono (le_extB hn)) ?_
                  refine .slc nm 0 n ⟨w.heap.size, 0, r'.size, l.length, κ.size, true⟩ _ _ (by unfold extB; rw [if_pos rfl]; rfl) ⟨?_, .inr ⟨by simp, Nat.le_refl _, fun _ => ?_⟩⟩
                  · show 0 + n ≤ l.length; omega
                  · show 0 + (0 + n) * κ.size ≤ r'.size; rw [h5]; simp
            · exact (den_fail he).elim
          · exact (den_fail he).elim
        · exact (den_fail he).elim
      · exact (den_fail he).elim
    · exact (den_fail he).elim
  · exact (den_fail he).elim
theorem maxB_eq : (maxB : Int) = 140737488355328 := rfl

theorem makeSliceA_post (hΓ : TysOk P Γ) (nm t : Nat) (lo co : Operand) (a b : AV) (x y : Value) (hx : VRep β a x) (hy : VRep β b y) (hsame : ∀ i, lo = .tmp i → co = .tmp i → x = y)
    (r : AV × Heap) (he : (makeSliceA Γ nm t lo co a b).den = some r) (hf : FreshIn β r.2) :
    ∃ u w', (Instr.makeSlice t x y).run P w = .ok u w' ∧ AddPost β w r.1 r.2 u w' := by
  unfold makeSliceA at he
  split at he
  · rename_i e _ _ _ _ n c hti
    obtain ⟨d, hu, hd, _⟩ := (hΓ.ty _ _ hti).under
    obtain rfl := dok_slc hd
    cases hx; cases hy
    split at he
    · rename_i te hte
      have hT := hΓ.ty _ _ hte
      obtain ⟨zv, hz1, hz2, hzs⟩ := hT.zero
      obtain ⟨info, hi1, hi2, hi3⟩ := hT.info
      split at he
      · rename_i κ hκ
        split at he
        · rename_i hsz
          split at he
          · rename_i z hz
            have hsz' := hsz
            obtain ⟨hsz, _⟩ := hsz
            have hp := κ.size_pos
            have hs0 : 0 < te.size := by omega
            -- the whole, once the bounds are known
            have fin : 0 ≤ n → n ≤ c → (te.bytes : Int) * c ≤ maxB → c < 2 ^ 62 → r = (.slc nm 0 n.toNat, [(nm, .arr true κ (List.replicate c.toNat z))]) →
                ∃ u w', (Instr.makeSlice t (.int .i64 n) (.int .i64 c)).run P w = .ok u w' ∧ AddPost β w r.1 r.2 u w' := by
              intro h0 h1 h2 h3 hr
              subst hr
              have hz' : VReps β ((List.replicate c.toNat z).flatMap κ.cells) ((Array.range (c.toNat * te.size)).map fun x => zv.cells[x % zv.cells.size]!).toList := by
                rw [zeros_eq zv.cells te.size _ hzs hs0]
                have h4 := EK.of_rep κ _ _ _ hz (hz2 β)
                have : ∀ m : Nat, VReps β ((List.replicate m z).flatMap κ.cells) (List.replicate m zv.cells.toList).flatten := by
                  intro m
                  induction m with
                  | zero => exact .nil
                  | succ m ih => rw [List.replicate_succ, List.flatMap_cons, List.replicate_succ, List.flatten_cons]; exact h4.append ih
                exact this _
              have hsize : ((Array.range (c.toNat * te.size)).map fun x => zv.cells[x % zv.cells.size]!).size = c.toNat * κ.size := by simp [hsz]
              refine ⟨.slice (some ⟨w.heap.size, 0, none⟩) n.toNat c.toNat, { w with heap := w.heap.push (.cells ((Array.range (c.toNat * te.size)).map fun x => zv.cells[x % zv.cells.size]!) e) }, ?_, ?_⟩
              · have hw1 : IntKind.i64.wrap n = n := by simp only [IntKind.wrap, IntKind.bits, IntKind.signed]; simp; omega
                have hw2 : IntKind.i64.wrap c = c := by simp only [IntKind.wrap, IntKind.bits, IntKind.signed]; simp; omega
                unfold Instr.makeSlice
                have hb : info.bytes = te.bytes := hi2
                have g1 : ¬ (c < 0) := by omega
                have g2 : ¬ ((te.bytes : Int) * c > 2 ^ 48) := by rw [maxB_eq] at h2; omega
                have g3 : ¬ (n < 0) := by omega
                have g4 : ¬ (n > c) := by omega
                simp only [Sem.run_bind, hu, Result.andThen_ok, asInt, asIntOf, Sem.run_pure, hi1, hw1, hw2, hb]
                simp only [g1, g2, g3, g4, decide_false, Bool.or_self, Bool.false_eq_true, if_false, Sem.run_pure, Result.andThen_ok, run_askRoom, hT.sizeOf w, Sem.run_bind]
                by_cases h5 : c.toNat * te.size = 0
                · rw [if_pos h5]
                  have : ((Array.range (c.toNat * te.size)).map fun x => zv.cells[x % zv.cells.size]!) = ((Array.range (c.toNat * te.size)).map fun x => (#[] : Array Value)[x % (#[] : Array Value).size]!) := by rw [h5, show Array.range 0 = #[] by decide, Array.map_empty, Array.map_empty]
                  rw [this]
                  simp only [Sem.run_pure, Result.andThen_ok, newRow, Sem.run_bind, run_newObj]
                · rw [if_neg h5]
                  simp only [Sem.run_bind, hz1, Result.andThen_ok, Sem.run_pure, newRow, run_newObj]
              · have hn := hf.names
                refine newRow_post nm (.arr true κ (List.replicate c.toNat z)) [] _ e isPh_nil rfl hn trivial rfl _ _ (fun loc _ _ => hz'.mono (le_extB hn)) ?_
                refine .slc nm 0 n.toNat ⟨w.heap.size, 0, _, (List.replicate c.toNat z).length, κ.size, true⟩ _ _ (by unfold extB; rw [if_pos rfl]; rfl) ⟨?_, .inr ⟨by simp, by omega, fun _ => ?_⟩⟩
                · show 0 + n.toNat ≤ (List.replicate c.toNat z).length; rw [List.length_replicate]; omega
                · show 0 + (0 + c.toNat) * κ.size ≤ _; rw [hsize]; simp
            dsimp only at he
            have big : ∀ m : Int, 0 ≤ m → (te.bytes : Int) * m ≤ maxB → te.bytes ≠ 0 → m < 2 ^ 62 := by
              intro m hm h hb
              rw [maxB_eq] at h
              have : (1 : Int) * m ≤ (te.bytes : Int) * m := Int.mul_le_mul_of_nonneg_right (by omega) hm
              omega
            have two : ((T.ifb (decide (0 ≤ n) && decide (n ≤ c) && decide ((te.bytes : Int) * c ≤ maxB)) (.ret (.slc nm 0 n.toNat, [(nm, .arr true κ (List.replicate c.toNat z))]))) : T (AV × Heap)).den = some r →
                ∃ u w', (Instr.makeSlice t (.int .i64 n) (.int .i64 c)).run P w = .ok u w' ∧ AddPost β w r.1 r.2 u w' := by
              intro he
              obtain ⟨h1, h2⟩ := den_ifb he
              simp only [Bool.and_eq_true, decide_eq_true_eq] at h1
              exact fin h1.1.1 h1.1.2 h1.2 (big c (by omega) h1.2 hsz'.2) (den_ret h2).symm
            split at he
            · rename_i i j
              split at he
              · rename_i hsm
                have hnc : n = c := by
                  have := Nat.eq_of_beq_eq_true hsm
                  subst this
                  have := hsame i rfl rfl
                  simpa using this
                subst hnc
                obtain ⟨h1, h2⟩ := den_ifb he
                simp only [Bool.and_eq_true, decide_eq_true_eq] at h1
                exact fin h1.1 (Int.le_refl _) h1.2 (big n h1.1 h1.2 hsz'.2) (den_ret h2).symm
              · exact two he
            · split at he
              · rename_i hsm; cases hsm
              · exact two he
          · exact (den_fail he).elim
        · exact (den_fail he).elim
      · exact (den_fail he).elim
    · exact (den_fail he).elim
  · exact (den_fail he).elim
end
end Go.Ab

/-
  Builtins; calls of functions whose doing is told as a function of data.
-/
namespace Go.Ab
open Go.RowKit

section
variable {P : Program} {Γ : Ctx} {β : Bt} {w : World}

theorem foldMM_run (b : Bool) (k : IntKind) : ∀ (l : List AV) (us : List Value) (x r : Int), VReps β l us → foldMM b k x l = some r →
    (us.foldlM (m := Sem) (if b then Builtin.max2 else Builtin.min2) (.int k x)).run P w = .ok (.int k r) w
  | [], us, x, r, hv, h => by cases hv; cases h; rfl
  | v :: l, us, x, r, hv, h => by
    cases hv with
    | cons _ u _ s h1 h2 =>
    match v, h with
    | .int k' y, h =>
      cases h1
      have h' : (if k' = k then foldMM b k (maxN b x y) l else none) = some r := h
      split at h'
      · rename_i e; subst e
        have ih := foldMM_run b k' l s (maxN b x y) r h2 h'
        rw [List.foldlM_cons]
        cases b
        · simp only [Sem.run_bind, Builtin.min2, Sem.run_pure, Result.andThen_ok, Bool.false_eq_true, if_false, maxN] at ih ⊢; exact ih
        · simp only [Sem.run_bind, Builtin.max2, Sem.run_pure, Result.andThen_ok, if_true, maxN] at ih ⊢; exact ih
      · cases h'

theorem builtinA_run (hΓ : TysOk P Γ) (b : Builtin) (ts : Array Nat) (ty : Nat) (cs : Array Bool) (args : List AV) (vs : Array Value) (hv : VReps β args vs.toList) (v : AV) (he : (builtinA Γ b ts.toList args).den = some v) :
    ∃ u, (builtin b ts ty cs vs).run P w = .ok (.value u) w ∧ VRep β v u := by
  have len : ∀ (t : Nat) (d : TyI) (x : Value) (n : Nat), ts[0]? = some t → Γ.ty t = some d → vs = #[x] → ((d.d = .str ∧ ∃ s, x = .string s ∧ n = s.size) ∨ (∃ e, d.d = .slc e) ∧ ∃ a c, x = .slice a n c) →
      (builtin .len ts ty cs vs).run P w = .ok (.value (.int .i64 n)) w := by
    intro t d x n h1 h2 h3 h4
    obtain ⟨d', hu, hd, _⟩ := (hΓ.ty _ _ h2).under
    subst h3
    rcases h4 with ⟨h5, s, rfl, rfl⟩ | ⟨⟨e, h5⟩, a, c, rfl⟩
    · rw [h5] at hd
      obtain rfl := dok_str hd
      simp [builtin, Builtin.len_, h1, hu, goInt]
    · rw [h5] at hd
      obtain rfl := dok_slc hd
      simp [builtin, Builtin.len_, h1, hu, goInt]
  have one : ∀ (x : Value), vs.toList = [x] → vs = #[x] := fun x h => by cases vs; simp_all
  have two : ∀ (x y : Value), vs.toList = [x, y] → vs = #[x, y] := fun x y h => by cases vs; simp_all
  unfold builtinA at he
  split at he
  · split at he
    · rename_i s t r ht
      split at he
      · rename_i hd
        rw [← den_ret he]
        generalize hul : vs.toList = ul at hv
        cases hv with
        | cons _ u _ _ h1 h2 =>
        cases h1; cases h2
        refine ⟨_, len t _ _ _ ?_ hd (one _ hul) (.inl ⟨rfl, _, rfl, rfl⟩), .int _ _⟩
        have := congrArg (fun l => l[0]?) ht; simpa using this
      · exact (den_fail he).elim
    · exact (den_fail he).elim
  · split at he
    · rename_i n o m t r ht
      split at he
      · rename_i hd
        rw [← den_ret he]
        generalize hul : vs.toList = ul at hv
        cases hv with
        | cons _ u _ _ h1 h2 =>
        cases h1; cases h2
        refine ⟨_, len t _ _ _ ?_ hd (one _ hul) (.inr ⟨⟨_, rfl⟩, _, _, rfl⟩), .int _ _⟩
        have := congrArg (fun l => l[0]?) ht; simpa using this
      · exact (den_fail he).elim
    · exact (den_fail he).elim
  · split at he
    · rename_i κ t r ht
      split at he
      · rename_i hd
        rw [← den_ret he]
        generalize hul : vs.toList = ul at hv
        cases hv with
        | cons _ u _ _ h1 h2 =>
        cases h1; cases h2
        refine ⟨_, len t _ _ 0 ?_ hd (one _ hul) (.inr ⟨⟨_, rfl⟩, _, _, rfl⟩), .int _ _⟩
        have := congrArg (fun l => l[0]?) ht; simpa using this
      · exact (den_fail he).elim
    · exact (den_fail he).elim
  · split at he
    · rename_i e; subst e
      rw [← den_ret he]
      generalize hul : vs.toList = ul at hv
      cases hv with
      | cons _ u _ _ h1 h2 =>
      cases h2 with
      | cons _ u' _ _ h3 h4 =>
      cases h4
      cases h1 with
      | flt _ x a ha =>
      cases h3 with
      | flt _ y b hb =>
      refine ⟨.complex _ a b, ?_, .cpx _ _ _ _ _ ha hb⟩
      have := two _ _ hul
      subst this
      have h5 := fun k => run_complex (P := P) w ts ty k a b
      show Sem.run P (do pure (Next.value (← Builtin.complex_ ts ty #[.float _ a, .float _ b]))) w = _
      rw [Sem.run_bind, h5]; rfl
    · exact (den_fail he).elim
  · rw [← den_ret he]
    generalize hul : vs.toList = ul at hv
    cases hv with
    | cons _ u _ _ h1 h2 =>
    cases h2
    cases h1 with
    | cpx _ x y a b ha hb =>
    have := one _ hul
    subst this
    exact ⟨.float _ a, rfl, .flt _ _ _ ha⟩
  · rw [← den_ret he]
    generalize hul : vs.toList = ul at hv
    cases hv with
    | cons _ u _ _ h1 h2 =>
    cases h2
    cases h1 with
    | cpx _ x y a b ha hb =>
    have := one _ hul
    subst this
    exact ⟨.float _ b, rfl, .flt _ _ _ hb⟩
  · split at he
    · rename_i n hn
      rw [← den_ret he]
      generalize hul : vs.toList = ul at hv
      cases hv with
      | cons _ u _ s h1 h2 =>
      cases h1
      refine ⟨.int _ n, ?_, .int _ _⟩
      have := foldMM_run (P := P) (w := w) true _ _ s _ n h2 hn
      simp only [if_true] at this
      simp [builtin, Builtin.max_, hul, this]
    · exact (den_fail he).elim
  · split at he
    · rename_i n hn
      rw [← den_ret he]
      generalize hul : vs.toList = ul at hv
      cases hv with
      | cons _ u _ s h1 h2 =>
      cases h1
      refine ⟨.int _ n, ?_, .int _ _⟩
      have := foldMM_run (P := P) (w := w) false _ _ s _ n h2 hn
      simp only [Bool.false_eq_true, if_false] at this
      simp [builtin, Builtin.min_, hul, this]
    · exact (den_fail he).elim
  · exact (den_fail he).elim
end

/-! ### Data in memory -/
def β0 : Bt := fun _ => none

/-- A slice that reads as a list. -/
def ListAt (w : World) (κ : EK) (l : List κ.den) (v : Value) : Prop :=
  ∃ a cap, v = .slice a l.length cap ∧ l.length ≤ cap ∧ (l = [] ∨ ∃ blk o, a = some ⟨blk, o, none⟩ ∧ ∀ j x, (l.flatMap κ.cells)[j]? = some x → ∃ u, w.cell? ⟨blk, o + j, none⟩ = some u ∧ VRep β0 x u)

mutual
def DRep (w : World) : (d : DS) → d.den → Value → Prop
  | .bool, b, v => v = .bool b
  | .int k, n, v => v = .int k n
  | .flt k, x, v => ∃ b, x.Is b ∧ v = .float k b
  | .cpx k, x, v => ∃ a b, x.1.Is a ∧ x.2.Is b ∧ v = .complex k a b
  | .str, s, v => v = .string s
  | .list κ, l, v => ListAt w κ l v
  | .agg l, x, v => ∃ cs : Array Value, v = .agg cs ∧ DReps w l x cs.toList
  | .ptr d, x, v => ∃ blk o, v = .pointer (some ⟨blk, o, none⟩) ∧ match d, x with
    | .agg l, x => ∃ us : List Value, (∀ (j : Nat) u, us[j]? = some u → w.cell? ⟨blk, o + j, none⟩ = some u) ∧ DReps w l x us
    | _, _ => False
def DReps (w : World) : (d : List DS) → DS.dens d → List Value → Prop
  | [], _, vs => vs = []
  | [d], x, vs => ∃ v, vs = [v] ∧ DRep w d x v
  | d :: e :: r, x, vs => ∃ v s, vs = v :: s ∧ DRep w d x.1 v ∧ DReps w (e :: r) x.2 s
end

/-- the cells of elements know of no names -/
theorem ek_rep {β β' : Bt} : ∀ (κ : EK) (x : κ.den) (c : AV) (u : Value), c ∈ κ.cells x → VRep β c u → VRep β' c u
  | .bool, x, c, u, hc, h => by simp only [EK.cells, List.mem_singleton] at hc; subst hc; cases h; exact .bs _
  | .int k, x, c, u, hc, h => by simp only [EK.cells, List.mem_singleton] at hc; subst hc; cases h; exact .int _ _
  | .flt k, x, c, u, hc, h => by simp only [EK.cells, List.mem_singleton] at hc; subst hc; cases h; exact .flt _ _ _ (by assumption)
  | .cpx k, x, c, u, hc, h => by simp only [EK.cells, List.mem_singleton] at hc; subst hc; cases h; exact .cpx _ _ _ _ _ (by assumption) (by assumption)
  | .str, x, c, u, hc, h => by simp only [EK.cells, List.mem_singleton] at hc; subst hc; cases h; exact .str _
  | .pair a b, x, c, u, hc, h => by
    simp only [EK.cells, List.mem_append] at hc
    rcases hc with hc | hc
    · exact ek_rep a _ c u hc h
    · exact ek_rep b _ c u hc h

theorem ek_flat {β β' : Bt} {κ : EK} {l : List κ.den} {j : Nat} {c : AV} {u : Value} (hj : (l.flatMap κ.cells)[j]? = some c) (h : VRep β c u) : VRep β' c u := by
  have := List.mem_of_getElem? hj
  obtain ⟨x, _, hx⟩ := List.mem_flatMap.1 this
  exact ek_rep κ x c u hx h

theorem listAt_slc {β : Bt} {g h : Heap} {w : World} {base : Nat} (hs : Sub g h) (hr : Rep β h w base) {n off len : Nat} {o : Bool} {κ : EK} {l : List κ.den} (hg : hget g n = some (.arr o κ l)) {v : Value} (hv : VRep β (.slc n off len) v) :
    ListAt w κ (sub l off len) v := by
  obtain ⟨a, cap, rfl, hlen, hc⟩ := slc_cells hr (hs _ _ hg) hv
  refine ⟨a, cap, by rw [hlen], ?_, ?_⟩
  · rw [hlen]
    cases hv with
    | slc _ _ _ loc _ _ _ hok =>
    obtain ⟨_, h2⟩ := hok
    rcases h2 with ⟨h2, _⟩ | h2 <;> omega
  · rcases hc with h0 | ⟨blk, o, ha, hc⟩
    · exact .inl (List.eq_nil_of_length_eq_zero (by rw [hlen, h0]))
    · refine .inr ⟨blk, o, ha, fun j x hj => ?_⟩
      obtain ⟨u, hu, hx⟩ := hc j x hj
      exact ⟨u, hu, ek_flat hj hx⟩

mutual
theorem read_rep {β : Bt} {g h : Heap} {w : World} {base : Nat} (hs : Sub g h) (hr : Rep β h w base) : ∀ (d : DS) (v : AV) (x : d.den) (u : Value), d.read g v = some x → VRep β v u → DRep w d x u
  | .bool, v, x, u, he, hv => by
    match v, he with
    | .bs b, he => cases he; cases hv; exact rfl
    | .bl b, he => cases he; cases hv; exact rfl
  | .int k, v, x, u, he, hv => by
    match v, he with
    | .int k' n, he =>
      have he' : (if k' = k then some n else none) = some x := he
      split at he'
      · rename_i e; subst e; cases he'; cases hv; exact rfl
      · cases he'
  | .flt k, v, x, u, he, hv => by
    match v, he with
    | .flt k' y, he =>
      have he' : (if e : k' = k then some (e ▸ y) else none) = some x := he
      split at he'
      · rename_i e; subst e; cases he'; cases hv with | flt _ _ b hb => exact ⟨b, hb, rfl⟩
      · cases he'
  | .cpx k, v, x, u, he, hv => by
    match v, he with
    | .cpx k' y z, he =>
      have he' : (if e : k' = k then some ((e ▸ y, e ▸ z) : Fl k × Fl k) else none) = some x := he
      split at he'
      · rename_i e; subst e; cases he'; cases hv with | cpx _ _ _ a b ha hb => exact ⟨a, b, ha, hb, rfl⟩
      · cases he'
  | .str, v, x, u, he, hv => by
    match v, he with
    | .str s, he => cases he; cases hv; exact rfl
  | .list κ, v, x, u, he, hv => by
    match v, he with
    | .nils _, he =>
      cases he
      cases hv with
      | nils _ a => exact ⟨a, 0, rfl, Nat.le_refl _, .inl rfl⟩
    | .slc n off len, he =>
      have he' : (match hget g n with
        | some (.arr _ κ' l) => if e : κ' = κ then some ((e ▸ sub l off len : List κ.den)) else none
        | _ => none) = some x := he
      split at he'
      · rename_i o κ' l hg
        split at he'
        · rename_i e; subst e; cases he'; exact listAt_slc hs hr hg hv
        · cases he'
      · cases he'
  | .agg l, v, x, u, he, hv => by
    match v, he with
    | .agg vs, he =>
      cases hv with
      | agg _ cs hcs => exact ⟨cs, rfl, reads_rep hs hr l vs x cs.toList he hcs⟩
  | .ptr d, v, x, u, he, hv => by
    match v, he with
    | .ptr n i c, he =>
      match d, x, he with
      | .agg ds, x, he =>
        have he' : (match hget g n with
          | some (.vals _ l) => if c = 0 ∧ i + ds.length ≤ l.length then DS.reads g ds ((l.drop i).take ds.length) else none
          | _ => none) = some x := he
        split at he'
        · rename_i o l hg
          split at he'
          · rename_i hc
            obtain ⟨rfl, _⟩ := hc
            cases hv with
            | ptr _ _ _ loc hl hi hc =>
            have hb := hr.get (hs _ _ hg) trivial hl
            have hes : loc.es = 1 := hb.es
            obtain ⟨us, h1, h2, h3⟩ := VReps.of_cells (fun j => w.cell? ⟨loc.blk, loc.off + j, none⟩) l hb.cells
            refine ⟨loc.blk, loc.off + (i * loc.es + 0), rfl, (us.drop i).take ds.length, fun j u hj => ?_, reads_rep hs hr ds _ x _ he' ((h3.drop i).take ds.length)⟩
            have hj' : us[i + j]? = some u := by
              rw [List.getElem?_take] at hj
              split at hj
              · rw [List.getElem?_drop] at hj; exact hj
              · cases hj
            have := h1 (i + j) u hj'
            rw [hes]
            simpa [Nat.add_assoc] using this
          · cases he'
        · cases he'
      | .bool, x, he => exact absurd he (by simp only [DS.read]; split <;> simp)
      | .int _, x, he => exact absurd he (by simp only [DS.read]; split <;> simp)
      | .flt _, x, he => exact absurd he (by simp only [DS.read]; split <;> simp)
      | .cpx _, x, he => exact absurd he (by simp only [DS.read]; split <;> simp)
      | .str, x, he => exact absurd he (by simp only [DS.read]; split <;> simp)
      | .list _, x, he => exact absurd he (by simp only [DS.read]; split <;> simp)
      | .ptr _, x, he => exact absurd he (by simp only [DS.read]; split <;> simp)
theorem reads_rep {β : Bt} {g h : Heap} {w : World} {base : Nat} (hs : Sub g h) (hr : Rep β h w base) : ∀ (d : List DS) (vs : List AV) (x : DS.dens d) (us : List Value), DS.reads g d vs = some x → VReps β vs us → DReps w d x us
  | [], vs, x, us, he, hv => by
    match vs, he with
    | [], _ => cases hv; exact rfl
  | [d], vs, x, us, he, hv => by
    match vs, he with
    | [v], he =>
      cases hv with
      | cons _ u _ _ h1 h2 =>
      cases h2
      exact ⟨u, rfl, read_rep hs hr d v x u he h1⟩
  | d :: e :: r, vs, x, us, he, hv => by
    match vs, he with
    | v :: vs, he =>
      have he' : (match d.read g v, DS.reads g (e :: r) vs with
        | some x, some y => some ((x, y) : d.den × DS.dens (e :: r))
        | _, _ => none) = some x := he
      split at he'
      · rename_i x1 y1 e1 e2
        cases he'
        cases hv with
        | cons _ u _ s h1 h2 =>
        exact ⟨u, s, rfl, read_rep hs hr d v x1 u e1 h1, reads_rep hs hr (e :: r) vs y1 s e2 h2⟩
      · cases he'
end

/-! ### New data -/
def ListOut (w : World) (base : Nat) (κ : EK) (l : List κ.den) (v : Value) (bl : List Nat) : Prop :=
  ∃ a cap, v = .slice a l.length cap ∧ ((l = [] ∧ cap = 0 ∧ bl = []) ∨ ∃ blk o size, a = some ⟨blk, o, none⟩ ∧ l.length ≤ cap ∧ o + cap * κ.size ≤ size ∧ base ≤ blk ∧
    (∃ cs e fr, w.heap[blk]? = some (.cells cs e fr) ∧ cs.size = size) ∧ (∀ o', o' < size → w.frozen? ⟨blk, o', none⟩ = false) ∧
    (∀ j x, (l.flatMap κ.cells)[j]? = some x → ∃ u, w.cell? ⟨blk, o + j, none⟩ = some u ∧ VRep β0 x u) ∧ bl = [blk])

def DOutC (w : World) (base : Nat) : (d : DS) → d.den → Value → List Nat → Prop
  | .bool, b, v, bl => v = .bool b ∧ bl = []
  | .int k, n, v, bl => v = .int k n ∧ bl = []
  | .flt k, x, v, bl => (∃ b, x.Is b ∧ v = .float k b) ∧ bl = []
  | .cpx k, x, v, bl => (∃ a b, x.1.Is a ∧ x.2.Is b ∧ v = .complex k a b) ∧ bl = []
  | .str, s, v, bl => v = .string s ∧ bl = []
  | .list κ, l, v, bl => ListOut w base κ l v bl
  | _, _, _, _ => False

def DOutCs (w : World) (base : Nat) : (d : List DS) → DS.dens d → List Value → List Nat → Prop
  | [], _, vs, bl => vs = [] ∧ bl = []
  | [d], x, vs, bl => ∃ v, vs = [v] ∧ DOutC w base d x v bl
  | d :: e :: r, x, vs, bl => ∃ v s b1 b2, vs = v :: s ∧ bl = b1 ++ b2 ∧ DOutC w base d x.1 v b1 ∧ DOutCs w base (e :: r) x.2 s b2

def DOut (w : World) (base : Nat) : (d : DS) → d.den → Value → List Nat → Prop
  | .agg l, x, v, bl => ∃ cs : Array Value, v = .agg cs ∧ DOutCs w base l x cs.toList bl
  | .bool, x, v, bl => DOutC w base .bool x v bl
  | .int k, x, v, bl => DOutC w base (.int k) x v bl
  | .flt k, x, v, bl => DOutC w base (.flt k) x v bl
  | .cpx k, x, v, bl => DOutC w base (.cpx k) x v bl
  | .str, x, v, bl => DOutC w base .str x v bl
  | .list κ, x, v, bl => DOutC w base (.list κ) x v bl
  | .ptr _, _, _, _ => False

def DOutT (w : World) (base : Nat) : (d : List DS) → DS.dens d → List Value → List Nat → Prop
  | [], _, vs, bl => vs = [] ∧ bl = []
  | [d], x, vs, bl => ∃ v, vs = [v] ∧ DOut w base d x v bl
  | d :: e :: r, x, vs, bl => ∃ v s b1 b2, vs = v :: s ∧ bl = b1 ++ b2 ∧ DOut w base d x.1 v b1 ∧ DOutT w base (e :: r) x.2 s b2

/-- one result as it is; others in a tuple -/
def DOutV (w : World) (base : Nat) (res : List DS) (x : DS.dens res) (u : Value) (bl : List Nat) : Prop :=
  ∃ vs, DOutT w base res x vs bl ∧ ((∃ v, vs = [v] ∧ u = v) ∨ ((∀ v, vs ≠ [v]) ∧ u = .tuple vs.toArray))

def CallOr (P : Program) (f : FuncId) (args : Array Value) (w : World) (R : Value → World → Prop) : Prop :=
  match (callFunc f args).run P w with
  | .ok (.value u) w' => R u w'
  | .ok (.enter f args) w' => Calls P f args w' fun e w'' => ∃ u, e = .returned u ∧ R u w''
  | _ => False

/-- WHAT IS SAID OF A FUNCTION: called with values that read as data, it gives new values that read as told, and turns nothing that was there. -/
def SpecOk' (P : Program) (f : Nat) (s : FSpec) : Prop :=
  ∀ (x : DS.dens s.args) (r : DS.dens s.res), s.F x = some r → ∀ (w : World) (args : Array Value), DReps w s.args x args.toList →
    CallOr P f args w fun u w' => Below w.heap.size w w' ∧ ∃ bl : List Nat, bl.Nodup ∧ DOutV w' w.heap.size s.res r u bl

theorem CallOr.mono {P : Program} {f : FuncId} {args : Array Value} {w : World} {R R' : Value → World → Prop} (h : CallOr P f args w R) (hr : ∀ u w', R u w' → R' u w') : CallOr P f args w R' := by
  unfold CallOr at *
  generalize (callFunc f args).run P w = r at *
  cases r with
  | halt x w' => exact h.elim
  | ok n w' =>
    cases n
    case value u => exact hr _ _ h
    case enter f args => exact h.mono fun e w'' ⟨u, e1, e2⟩ => ⟨u, e1, hr _ _ e2⟩
    all_goals exact h.elim
end Go.Ab

/-
  A callee's results, named.
-/
namespace Go.Ab
open Go.RowKit

def lget : List (Nat × Loc) → Nat → Option Loc
  | [], _ => none
  | (m, l) :: r, n => bif Nat.beq m n then some l else lget r n

structure LOk (w : World) (B : Nat) (l : Loc) (b : Blk) : Prop where
  live : b.live
  own : b.own = true
  rep : ∀ β', BRep β' w B l b

inductive Lays (w : World) (B : Nat) : List (Nat × Loc) → Heap → List Nat → Prop
  | nil : Lays w B [] [] []
  | skip (n : Nat) (l : Loc) (b : Blk) (r : List (Nat × Loc)) (d : Heap) (bl : List Nat) : l.size = 0 → LOk w B l b → Lays w B r d bl → Lays w B ((n, l) :: r) ((n, b) :: d) bl
  | take (n : Nat) (l : Loc) (b : Blk) (r : List (Nat × Loc)) (d : Heap) (bl : List Nat) : LOk w B l b → Lays w B r d bl → Lays w B ((n, l) :: r) ((n, b) :: d) (l.blk :: bl)

theorem Lays.append {w : World} {B : Nat} {a a' : List (Nat × Loc)} {d d' : Heap} {b b' : List Nat} (h : Lays w B a d b) (h' : Lays w B a' d' b') : Lays w B (a ++ a') (d ++ d') (b ++ b') := by
  induction h with
  | nil => exact h'
  | skip n l b r d bl h0 h1 _ ih => exact .skip n l b _ _ _ h0 h1 ih
  | take n l b r d bl h1 _ ih => exact .take n l b _ _ _ h1 ih

def Dist : Heap → Prop
  | [] => True
  | (n, _) :: r => hget r n = none ∧ Dist r

theorem Lays.get {w : World} {B : Nat} {a : List (Nat × Loc)} {d : Heap} {bl : List Nat} (h : Lays w B a d bl) {n : Nat} {b : Blk} (hn : hget d n = some b) : ∃ l, lget a n = some l ∧ LOk w B l b := by
  induction h with
  | nil => simp [hget] at hn
  | skip m l b' r d bl h0 h1 _ ih =>
    unfold lget
    cases hb : Nat.beq m n with
    | true => simp only [hget, hb, cond_true, Option.some.injEq] at hn; subst hn; exact ⟨l, rfl, h1⟩
    | false => simp only [hget, hb, cond_false] at hn; exact ih hn
  | take m l b' r d bl h1 _ ih =>
    unfold lget
    cases hb : Nat.beq m n with
    | true => simp only [hget, hb, cond_true, Option.some.injEq] at hn; subst hn; exact ⟨l, rfl, h1⟩
    | false => simp only [hget, hb, cond_false] at hn; exact ih hn

theorem Lays.none {w : World} {B : Nat} {a : List (Nat × Loc)} {d : Heap} {bl : List Nat} (h : Lays w B a d bl) {n : Nat} (hn : hget d n = none) : lget a n = none := by
  induction h with
  | nil => rfl
  | skip m l b' r d bl h0 h1 _ ih =>
    unfold lget
    cases hb : Nat.beq m n with
    | true => simp [hget, hb] at hn
    | false => simp only [hget, hb, cond_false] at hn; exact ih hn
  | take m l b' r d bl h1 _ ih =>
    unfold lget
    cases hb : Nat.beq m n with
    | true => simp [hget, hb] at hn
    | false => simp only [hget, hb, cond_false] at hn; exact ih hn

theorem Lays.mem_blk {w : World} {B : Nat} {a : List (Nat × Loc)} {d : Heap} {bl : List Nat} (h : Lays w B a d bl) {n : Nat} {l : Loc} (hn : lget a n = some l) (hs : 0 < l.size) : l.blk ∈ bl := by
  induction h with
  | nil => simp [lget] at hn
  | skip m l' b' r d bl h0 h1 _ ih =>
    unfold lget at hn
    cases hb : Nat.beq m n with
    | true => simp only [hb, cond_true, Option.some.injEq] at hn; subst hn; omega
    | false => simp only [hb, cond_false] at hn; exact ih hn
  | take m l' b' r d bl h1 _ ih =>
    unfold lget at hn
    cases hb : Nat.beq m n with
    | true => simp only [hb, cond_true, Option.some.injEq] at hn; subst hn; exact List.mem_cons_self ..
    | false => simp only [hb, cond_false] at hn; exact List.mem_cons_of_mem _ (ih hn)

theorem Lays.sep {w : World} {B : Nat} {a : List (Nat × Loc)} {d : Heap} {bl : List Nat} (h : Lays w B a d bl) (hd : bl.Nodup) {n m : Nat} {l l' : Loc} (hnm : n ≠ m) (hn : lget a n = some l) (hm : lget a m = some l') (hs : 0 < l.size) (hs' : 0 < l'.size) : l.blk ≠ l'.blk := by
  induction h with
  | nil => simp [lget] at hn
  | skip k lk b' r d bl h0 h1 hr ih =>
    unfold lget at hn hm
    cases hb : Nat.beq k n with
    | true => simp only [hb, cond_true, Option.some.injEq] at hn; subst hn; omega
    | false =>
      cases hb' : Nat.beq k m with
      | true => simp only [hb', cond_true, Option.some.injEq] at hm; subst hm; omega
      | false => simp only [hb, hb', cond_false] at hn hm; exact ih hd hn hm
  | take k lk b' r d bl h1 hr ih =>
    unfold lget at hn hm
    obtain ⟨hd1, hd2⟩ := List.nodup_cons.1 hd
    cases hb : Nat.beq k n with
    | true =>
      simp only [hb, cond_true, Option.some.injEq] at hn; subst hn
      cases hb' : Nat.beq k m with
      | true => exact absurd ((Nat.eq_of_beq_eq_true hb).symm.trans (Nat.eq_of_beq_eq_true hb')) hnm
      | false =>
        simp only [hb', cond_false] at hm
        have := hr.mem_blk hm hs'
        intro e; rw [e] at hd1; exact hd1 this
    | false =>
      simp only [hb, cond_false] at hn
      cases hb' : Nat.beq k m with
      | true =>
        simp only [hb', cond_true, Option.some.injEq] at hm; subst hm
        have := hr.mem_blk hn hs
        intro e; rw [← e] at hd1; exact hd1 this
      | false => simp only [hb', cond_false] at hm; exact ih hd2 hn hm

/-- Values under places for new names. -/
def KnowsV (ls : List (Nat × Loc)) (v : AV) (u : Value) : Prop := ∀ β' : Bt, (∀ p ∈ ls, β' p.1 = some p.2) → VRep β' v u
def KnowsVs (ls : List (Nat × Loc)) (v : List AV) (u : List Value) : Prop := ∀ β' : Bt, (∀ p ∈ ls, β' p.1 = some p.2) → VReps β' v u

section
variable {w : World} {B : Nat}

theorem lay_list (nm j : Nat) (κ : EK) (l : List κ.den) (u : Value) (bl : List Nat) (h : ListOut w B κ l u bl) :
    ∃ ls, Lays w B ls [(nm + j, .arr true κ l)] bl ∧ KnowsV ls (.slc (nm + j) 0 l.length) u := by
  obtain ⟨a, cap, rfl, h | ⟨blk, o, size, rfl, h1, h2, h3, h4, h5, h6, rfl⟩⟩ := h
  · obtain ⟨rfl, rfl, rfl⟩ := h
    refine ⟨[(nm + j, phLoc (.arr true κ []))], .skip _ _ _ _ _ _ rfl ⟨trivial, rfl, fun β' => ⟨rfl, rfl, rfl, fun j x hj => by simp [Blk.cl] at hj, fun _ h => by simp [phLoc] at h, fun _ => by simp [phLoc, Blk.len], fun h => by cases h⟩⟩ .nil, fun β' hβ => ?_⟩
    exact .slc _ _ _ _ _ _ (hβ _ (List.mem_singleton_self _)) ⟨Nat.le_refl _, .inl ⟨rfl, fun _ => rfl⟩⟩
  · refine ⟨[(nm + j, ⟨blk, o, size, l.length, κ.size, true⟩)], .take _ _ _ _ _ _ ⟨trivial, rfl, fun β' => ⟨rfl, rfl, rfl, fun j x hj => ?_, fun _ _ => ⟨h3, h4, h5⟩, fun _ => by have := Nat.mul_le_mul_right κ.size h1; show o + l.length * κ.size ≤ size; omega, fun h => by cases h⟩⟩ .nil, fun β' hβ => ?_⟩
    · obtain ⟨u, hu, hx⟩ := h6 j x hj
      exact ⟨u, hu, ek_flat hj hx⟩
    · refine .slc _ _ _ _ _ _ (hβ _ (List.mem_singleton_self _)) ⟨by simp, .inr ⟨by simp, h1, fun _ => ?_⟩⟩
      simpa using h2

theorem lay_c (nm : Nat) (d : DS) (x : d.den) (j : Nat) (u : Value) (bl : List Nat) (h : DOutC w B d x u bl) :
    ∃ ls, Lays w B ls (d.lay nm x j).2.1 bl ∧ KnowsV ls (d.lay nm x j).1 u := by
  cases d with
  | bool => obtain ⟨rfl, rfl⟩ := h; exact ⟨[], .nil, fun _ _ => .bs _⟩
  | int k => obtain ⟨rfl, rfl⟩ := h; exact ⟨[], .nil, fun _ _ => .int _ _⟩
  | flt k => obtain ⟨⟨b, hb, rfl⟩, rfl⟩ := h; exact ⟨[], .nil, fun _ _ => .flt _ _ _ hb⟩
  | cpx k => obtain ⟨⟨a, b, ha, hb, rfl⟩, rfl⟩ := h; exact ⟨[], .nil, fun _ _ => .cpx _ _ _ _ _ ha hb⟩
  | str => obtain ⟨rfl, rfl⟩ := h; exact ⟨[], .nil, fun _ _ => .str _⟩
  | list κ => exact lay_list nm j κ x u bl h
  | agg l => exact h.elim
  | ptr d => exact h.elim

theorem lay_cs (nm : Nat) : ∀ (d : List DS) (x : DS.dens d) (j : Nat) (us : List Value) (bl : List Nat), DOutCs w B d x us bl →
    ∃ ls, Lays w B ls (DS.lays nm d x j).2.1 bl ∧ KnowsVs ls (DS.lays nm d x j).1 us
  | [], _, _, us, bl, h => by obtain ⟨rfl, rfl⟩ := h; exact ⟨[], .nil, fun _ _ => .nil⟩
  | [d], x, j, us, bl, h => by
    obtain ⟨v, rfl, h⟩ := h
    obtain ⟨ls, h1, h2⟩ := lay_c nm d x j v bl h
    exact ⟨ls, h1, fun β' hβ => VReps.one (h2 β' hβ)⟩
  | d :: e :: r, x, j, us, bl, h => by
    obtain ⟨v, s, b1, b2, rfl, rfl, h1, h2⟩ := h
    obtain ⟨l1, h3, h4⟩ := lay_c nm d x.1 j v b1 h1
    obtain ⟨l2, h5, h6⟩ := lay_cs nm (e :: r) x.2 (d.lay nm x.1 j).2.2 s b2 h2
    exact ⟨l1 ++ l2, h3.append h5, fun β' hβ => .cons _ _ _ _ (h4 β' fun p hp => hβ p (List.mem_append_left _ hp)) (h6 β' fun p hp => hβ p (List.mem_append_right _ hp))⟩

theorem lay_r (nm : Nat) (d : DS) (x : d.den) (j : Nat) (u : Value) (bl : List Nat) (h : DOut w B d x u bl) :
    ∃ ls, Lays w B ls (d.layRes nm x j).2.1 bl ∧ KnowsV ls (d.layRes nm x j).1 u := by
  cases d with
  | agg l =>
    obtain ⟨cs, rfl, h⟩ := h
    obtain ⟨ls, h1, h2⟩ := lay_cs nm l x j cs.toList bl h
    exact ⟨ls, h1, fun β' hβ => .agg _ _ (h2 β' hβ)⟩
  | bool => exact lay_c nm .bool x j u bl h
  | int k => exact lay_c nm (.int k) x j u bl h
  | flt k => exact lay_c nm (.flt k) x j u bl h
  | cpx k => exact lay_c nm (.cpx k) x j u bl h
  | str => exact lay_c nm .str x j u bl h
  | list κ => exact lay_c nm (.list κ) x j u bl h
  | ptr d => exact h.elim

theorem lay_t (nm : Nat) : ∀ (d : List DS) (x : DS.dens d) (j : Nat) (us : List Value) (bl : List Nat), DOutT w B d x us bl →
    ∃ ls, Lays w B ls (DS.layTup nm d x j).2.1 bl ∧ KnowsVs ls (DS.layTup nm d x j).1 us
  | [], _, _, us, bl, h => by obtain ⟨rfl, rfl⟩ := h; exact ⟨[], .nil, fun _ _ => .nil⟩
  | [d], x, j, us, bl, h => by
    obtain ⟨v, rfl, h⟩ := h
    obtain ⟨ls, h1, h2⟩ := lay_r nm d x j v bl h
    exact ⟨ls, h1, fun β' hβ => VReps.one (h2 β' hβ)⟩
  | d :: e :: r, x, j, us, bl, h => by
    obtain ⟨v, s, b1, b2, rfl, rfl, h1, h2⟩ := h
    obtain ⟨l1, h3, h4⟩ := lay_r nm d x.1 j v b1 h1
    obtain ⟨l2, h5, h6⟩ := lay_t nm (e :: r) x.2 (d.layRes nm x.1 j).2.2 s b2 h2
    exact ⟨l1 ++ l2, h3.append h5, fun β' hβ => .cons _ _ _ _ (h4 β' fun p hp => hβ p (List.mem_append_left _ hp)) (h6 β' fun p hp => hβ p (List.mem_append_right _ hp))⟩

theorem Lays.knows {a : List (Nat × Loc)} {d : Heap} {bl : List Nat} (h : Lays w B a d bl) (hd : Dist d) : ∀ p ∈ a, lget a p.1 = some p.2 := by
  induction h with
  | nil => intro p hp; cases hp
  | skip n l b r d bl h0 h1 hr ih =>
    intro p hp
    rcases List.mem_cons.1 hp with rfl | hp
    · unfold lget; rw [Nat.beq_refl]; rfl
    · unfold lget
      have hne : Nat.beq n p.1 = false := by
        cases hb : Nat.beq n p.1 with
        | false => rfl
        | true =>
          have := Nat.eq_of_beq_eq_true hb
          have h2 := hr.none (n := p.1) (by rw [← this]; exact hd.1)
          rw [ih hd.2 p hp] at h2; cases h2
      rw [hne]; exact ih hd.2 p hp
  | take n l b r d bl h1 hr ih =>
    intro p hp
    rcases List.mem_cons.1 hp with rfl | hp
    · unfold lget; rw [Nat.beq_refl]; rfl
    · unfold lget
      have hne : Nat.beq n p.1 = false := by
        cases hb : Nat.beq n p.1 with
        | false => rfl
        | true =>
          have := Nat.eq_of_beq_eq_true hb
          have h2 := hr.none (n := p.1) (by rw [← this]; exact hd.1)
          rw [ih hd.2 p hp] at h2; cases h2
      rw [hne]; exact ih hd.2 p hp
end

/-- new blocks whose names are new in h -/
theorem fresh_spec (h : Heap) : ∀ (d : Heap), fresh h d = true → (∀ n b, hget d n = some b → hget h n = none) ∧ Dist d
  | [], _ => ⟨fun n b h => by simp [hget] at h, trivial⟩
  | (m, c) :: r, hf => by
    unfold fresh at hf
    simp only [Bool.and_eq_true, Option.isNone_iff_eq_none] at hf
    obtain ⟨⟨h1, h2⟩, h3⟩ := hf
    obtain ⟨i1, i2⟩ := fresh_spec h r h3
    refine ⟨fun n b hn => ?_, h2, i2⟩
    by_cases e : m = n
    · subst e; exact h1
    · rw [hget_cons_ne _ _ e] at hn; exact i1 n b hn

theorem Dist.fresh {β : Bt} {d : Heap} (h : Dist d) (h' : ∀ n b, hget d n = some b → β n = none) : FreshIn β d := by
  refine ⟨h', fun n b d' e => ?_⟩
  subst e; exact h.1

theorem useSpec_post {P : Program} {β : Bt} {g h : Heap} {w : World} {base : Nat} {f : Nat} {s : FSpec} (hS : SpecOk' P f s) (hs : Sub g h) (hr : Rep β h w base) (args : List AV) (vs : Array Value) (hv : VReps β args vs.toList) (nm : Nat)
    (r : AV × Heap) (he : (useSpec s args g nm).den = some r) (hd : Dist r.2) (hβ : ∀ n b, hget r.2 n = some b → β n = none) :
    CallOr P f vs w fun u w' => AddPost β w r.1 r.2 u w' := by
  unfold useSpec at he
  split at he
  · exact (den_fail he).elim
  · rename_i x hx
    obtain ⟨y, h1, h2⟩ := den_bnd he
    have h3 := den_ret h2
    refine (hS x y h1 w vs (reads_rep hs hr _ _ _ _ hx hv)).mono fun u w' ⟨hb, bl, hbl, us, hT, hu⟩ => ?_
    obtain ⟨ls, hL, hK⟩ := lay_t (nm * 1024 + 1000) s.res y 0 us bl hT
    rw [← h3] at hd hβ ⊢
    simp only at hd hβ ⊢
    let β' : Bt := fun n => match lget ls n with | some l => some l | none => β n
    have hle : β.le β' := by
      intro n l hn
      show (match lget ls n with | some l => some l | none => β n) = some l
      cases hg : lget ls n with
      | none => exact hn
      | some l' =>
        cases hgd : hget (DS.layTup (nm * 1024 + 1000) s.res y 0).2.1 n with
        | none => rw [hL.none hgd] at hg; cases hg
        | some b => rw [hβ n b hgd] at hn; cases hn
    have hknow : ∀ p ∈ ls, β' p.1 = some p.2 := fun p hp => by
      show (match lget ls p.1 with | some l => some l | none => β p.1) = some p.2
      rw [hL.knows hd p hp]
    refine ⟨β', hle, hb, ?_, fun n hn => ?_, ⟨fun n b hn => ?_, fun n m b b' l l' hnm hn hm h4 h5 h6 h7 => ?_⟩⟩
    · have := hK β' hknow
      rcases hu with ⟨v, rfl, rfl⟩ | ⟨hne, rfl⟩
      · generalize (DS.layTup (nm * 1024 + 1000) s.res y 0).1 = avs at this ⊢
        cases this with
        | cons a _ r _ h1 h2 => cases h2; exact h1
      · generalize (DS.layTup (nm * 1024 + 1000) s.res y 0).1 = avs at this ⊢
        split
        · cases this with
          | cons a b r _ h1 h2 => cases h2; exact absurd rfl (hne _)
        · exact .tup _ _ (by simpa using this)
    · show (match lget ls n with | some l => some l | none => β n) = β n
      rw [hL.none hn]
    · obtain ⟨l, hl, hok⟩ := hL.get hn
      exact ⟨hok.live, hok.own, l, by show (match lget ls n with | some l => some l | none => β n) = some l; rw [hl], hok.rep β'⟩
    · obtain ⟨k, hk, _⟩ := hL.get hn
      obtain ⟨k', hk', _⟩ := hL.get hm
      have e1 : l = k := by
        have : β' n = some l := h4
        have h8 : β' n = some k := by show (match lget ls n with | some l => some l | none => β n) = some k; rw [hk]
        rw [h8] at this; cases this; rfl
      have e2 : l' = k' := by
        have : β' m = some l' := h5
        have h8 : β' m = some k' := by show (match lget ls m with | some l => some l | none => β m) = some k'; rw [hk']
        rw [h8] at this; cases this; rfl
      subst e1 e2
      exact hL.sep hbl hnm hk hk' h6 h7

end Go.Ab
