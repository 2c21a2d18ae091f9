/-
  Operations that turn no memory. Part 5: loads, addresses, parts, slices.
-/
import Derived.Test.YtgmjoehnkannkaaAbAdd
namespace Go.Ab
open Go.RowKit

section
variable {P : Program} {Γ : Ctx} {β : Bt} {g h : Heap} {w : World} {base : Nat}

theorem load_one {a : Addr} {u : Value} (hc : w.cell? a = some u) : (load a).run P w = .ok u w := by
  rw [run_load, hc]

theorem loadVar_one {t : Nat} {ti : TyI} (hT : TyOk P t ti) (ha : ti.isAgg = false) {a : Addr} {u : Value} (hc : w.cell? a = some u) : (loadVar t a).run P w = .ok u w := by
  unfold loadVar
  rw [Sem.run_bind, hT.isAgg w]
  simp only [Result.andThen_ok, ha]
  exact load_one hc

theorem loadVar_agg {t : Nat} {ti : TyI} (hT : TyOk P t ti) (ha : ti.isAgg = true) {blk o : Nat} {l : List AV} (hlen : l.length = ti.size)
    (hc : ∀ j x, l[j]? = some x → ∃ u, w.cell? ⟨blk, o + j, none⟩ = some u ∧ VRep β x u) :
    ∃ us : Array Value, (loadVar t ⟨blk, o, none⟩).run P w = .ok (.agg us) w ∧ VReps β l us.toList := by
  obtain ⟨us, h1, h2, h3⟩ := load_cells (P := P) hc
  refine ⟨us.toArray, ?_, by simpa using h2⟩
  unfold loadVar
  rw [hlen] at h3
  simp [hT.isAgg w, ha, hT.sizeOf w, h3]

theorem getD_of {α : Type} {l : List α} {i : Nat} {d : α} (h : i < l.length) : l[i]? = some (l.getD i d) := by
  simp [List.getD_eq_getElem?_getD, List.getElem?_eq_getElem h]

theorem loadA_run (hΓ : TysOk P Γ) (hs : Sub g h) (hr : Rep β h w base) (t : Nat) (p : AV) (x : Value) (hx : VRep β p x) (v : AV) (he : (loadA Γ g t p).den = some v) :
    ∃ a, x = .pointer (some a) ∧ ∃ u, (loadVar t a).run P w = .ok u w ∧ VRep β v u := by
  unfold loadA at he
  split at he
  · rename_i ti n i c hti
    have hT := hΓ.ty _ _ hti
    cases hx with
    | ptr _ _ _ l hl hi hc =>
    refine ⟨_, rfl, ?_⟩
    split at he
    · rename_i o cl hg
      have hb := hr.get (hs _ _ hg) trivial hl
      have hes : l.es = 1 := hb.es
      have hc0 : c = 0 := by omega
      subst hc0
      have haddr : l.off + (i * l.es + 0) = l.off + i := by rw [hes]; omega
      rw [haddr]
      split at he
      · rename_i ha
        split at he
        · rename_i hsz
          rw [← den_ret he]
          have hlen : ((cl.drop i).take ti.size).length = ti.size := by rw [List.length_take, List.length_drop]; omega
          obtain ⟨us, h1, h2⟩ := loadVar_agg (P := P) (β := β) (w := w) (blk := l.blk) (o := l.off + i) hT ha hlen (fun j x hj => by
            rw [List.getElem?_take] at hj
            split at hj
            · rw [List.getElem?_drop] at hj
              obtain ⟨u, hu, hv⟩ := hb.cells (i + j) x hj
              exact ⟨u, by rw [Nat.add_assoc]; exact hu, hv⟩
            · cases hj)
          exact ⟨_, h1, .agg _ _ h2⟩
        · exact (den_fail he).elim
      · rename_i ha
        simp at he
        have hv := den_opt he
        obtain ⟨u, hu, hv'⟩ := hb.cells i v hv
        exact ⟨u, loadVar_one hT (by simpa using ha) hu, hv'⟩
    · rename_i o κ cl hg
      have hb := hr.get (hs _ _ hg) trivial hl
      have hes : l.es = κ.size := hb.es
      have hlen : l.len = cl.length := hb.len
      have hget : cl[i]? = some (cl.getD i κ.dflt) := getD_of (by omega)
      split at he
      · rename_i ha
        split at he
        · rename_i hsz
          obtain ⟨rfl, hsz, _⟩ := hsz
          rw [← den_ret he]
          obtain ⟨us, h1, h2⟩ := loadVar_agg (P := P) (β := β) (w := w) (blk := l.blk) (o := l.off + (i * l.es + 0)) (l := κ.cells (cl.getD i κ.dflt)) hT ha (by rw [EK.cells_length, hsz]) (fun j x hj => by
            have hj' : j < κ.size := by
              have := (List.getElem?_eq_some_iff.1 hj).1
              rwa [EK.cells_length] at this
            obtain ⟨u, hu, hv⟩ := hb.cells (i * κ.size + j) x (by rw [show Blk.cl (.arr o κ cl) = cl.flatMap κ.cells from rfl, flat_get κ cl i j _ hget hj']; exact hj)
            exact ⟨u, by rw [hes, Nat.add_zero, Nat.add_assoc]; exact hu, hv⟩)
          exact ⟨_, h1, .agg _ _ h2⟩
        · split at he
          · rename_i m e hd
            split at he
            · rename_i hc0
              obtain ⟨rfl, rfl⟩ := hc0
              obtain ⟨h1, h2⟩ := den_ifb he
              rw [← den_ret h2]
              simp only [Bool.and_eq_true, decide_eq_true_eq, beq_iff_eq] at h1
              obtain ⟨us, h3, h4⟩ := loadVar_agg (P := P) (β := β) (w := w) (blk := l.blk) (o := l.off + (0 * l.es + 0)) (l := cl.flatMap κ.cells) hT ha (by rw [flat_length, h1.1, h1.2]) (fun j x hj => by
                obtain ⟨u, hu, hv⟩ := hb.cells j x hj
                exact ⟨u, by rw [Nat.zero_mul, Nat.add_zero]; exact hu, hv⟩)
              exact ⟨_, h3, .arv _ _ _ h4⟩
            · exact (den_fail he).elim
          · exact (den_fail he).elim
      · rename_i ha
        have hv := den_opt he
        obtain ⟨u, hu, hv'⟩ := hb.cells (i * κ.size + c) v (by rw [show Blk.cl (.arr o κ cl) = cl.flatMap κ.cells from rfl, flat_get κ cl i c _ hget (by omega)]; exact hv)
        exact ⟨u, loadVar_one hT (by simpa using ha) (by rw [hes]; exact hu), hv'⟩
    · exact (den_fail he).elim
  · exact (den_fail he).elim

theorem addr_add' (blk o j : Nat) : (⟨blk, o, none⟩ : Addr).add j = ⟨blk, o + j, none⟩ := addr_add blk o j

/-- the field of a struct type -/
theorem fieldOff_run (hΓ : TysOk P Γ) {t f ft off : Nat} (he : fieldOff Γ t f = some (ft, off)) :
    ∃ fs fd, (∀ w, (underlying t).run P w = .ok (.struct fs) w) ∧ fs[f]? = some fd ∧ fd.type = ft ∧ fd.offset = off := by
  unfold fieldOff at he
  split at he
  · rename_i fs _ _ _ _ e
    obtain ⟨d, h1, h2, _⟩ := (hΓ.ty _ _ e).under
    obtain ⟨fs', rfl, hfs⟩ := dok_struct h2
    rw [hfs, List.getElem?_map] at he
    cases hf : fs'.toList[f]? with
    | none => rw [hf] at he; cases he
    | some fd =>
      rw [hf] at he
      simp at he
      exact ⟨fs', fd, h1, by simpa using hf, he.1, he.2⟩
  · cases he

theorem fieldAddrA_run (hΓ : TysOk P Γ) (hs : Sub g h) (hr : Rep β h w base) (t : Nat) (p : AV) (f : Nat) (x : Value) (hx : VRep β p x) (v : AV) (he : (fieldAddrA Γ g t p f).den = some v) :
    RunsTo P (Instr.fieldAt t x f) w (VRep β v) := by
  unfold fieldAddrA at he
  split at he
  · rename_i ft off n i c ho
    obtain ⟨fs, fd, hu, hf, hft, hoff⟩ := fieldOff_run hΓ ho
    cases hx with
    | ptr _ _ _ l hl hi hc =>
    split at he
    · exact (den_fail he).elim
    rename_i hsz
    obtain ⟨hsz1, hsz2⟩ : (∀ w, (sizeOf fd.type).run P w = .ok (sizeOfA Γ ft) w) ∧ sizeOfA Γ ft ≠ 0 := by
      refine ⟨fun w => ?_, hsz⟩
      rw [hft]
      unfold sizeOfA at hsz ⊢
      cases he : Γ.ty ft with
      | none => rw [he] at hsz; exact absurd rfl hsz
      | some ti => exact (hΓ.ty _ _ he).sizeOf w
    have hrun : (Instr.fieldAt t (.pointer (some ⟨l.blk, l.off + (i * l.es + c), none⟩)) f).run P w = .ok (.pointer (some ⟨l.blk, l.off + (i * l.es + c) + off, none⟩)) w := by
      unfold Instr.fieldAt
      simp [hu, hf, Instr.sureAddr, fieldPlace, hoff, addr_add, hsz1, hsz2]
    split at he
    · rename_i o cl hg
      have hb := hr.get (hs _ _ hg) trivial hl
      have hes : l.es = 1 := hb.es
      have hlen : l.len = cl.length := hb.len
      split at he
      · rename_i hlt
        rw [← den_ret he]
        refine RunsTo.of hrun ?_
        have := VRep.ptr (β := β) n (i + off) c l hl (by omega) hc
        rw [hes] at this ⊢
        rw [show l.off + (i * 1 + c) + off = l.off + ((i + off) * 1 + c) by omega]
        exact this
      · exact (den_fail he).elim
    · rename_i o κ cl hg
      have hb := hr.get (hs _ _ hg) trivial hl
      have hes : l.es = κ.size := hb.es
      split at he
      · rename_i hlt
        rw [← den_ret he]
        refine RunsTo.of hrun ?_
        have := VRep.ptr (β := β) n i (c + off) l hl hi (by omega)
        rw [show l.off + (i * l.es + c) + off = l.off + (i * l.es + (c + off)) by omega]
        exact this
      · exact (den_fail he).elim
    · exact (den_fail he).elim
  · exact (den_fail he).elim

/-- a part of a value that lies cell by cell -/
theorem part_run {t : Nat} {ti : TyI} (hT : TyOk P t ti) {l : List AV} {cs : Array Value} (hv : VReps β l cs.toList) (off : Nat) (v : AV)
    (he : (if ti.isAgg = true then (if off + ti.size ≤ l.length then T.ret (.agg ((l.drop off).take ti.size)) else .fail) else T.opt l[off]?).den = some v) :
    ∃ u, (part t cs off).run P w = .ok u w ∧ VRep β v u := by
  split at he
  · rename_i ha
    split at he
    · rename_i hsz
      rw [← den_ret he]
      refine ⟨.agg (cs.extract off (off + ti.size)), ?_, .agg _ _ ?_⟩
      · unfold part; simp [hT.isAgg w, ha, hT.sizeOf w]
      · have := (hv.drop off).take ti.size
        simpa [List.extract_eq_take_drop, List.drop_take] using this
    · exact (den_fail he).elim
  · rename_i ha
    obtain ⟨u, hu, hv'⟩ := hv.get off (den_opt he)
    refine ⟨u, ?_, hv'⟩
    have ha' : ti.isAgg = false := by simpa using ha
    have hu' : cs[off]? = some u := by simpa using hu
    unfold part
    simp [hT.isAgg w, ha', hu']

theorem fieldA_run (hΓ : TysOk P Γ) (t : Nat) (a : AV) (f : Nat) (x : Value) (hx : VRep β a x) (v : AV) (he : (fieldA Γ t a f).den = some v) :
    RunsTo P (Instr.field t x f) w (VRep β v) := by
  unfold fieldA at he
  split at he
  · rename_i ft off l ho
    obtain ⟨fs, fd, hu, hf, hft, hoff⟩ := fieldOff_run hΓ ho
    cases hx with
    | agg _ cs hcs =>
    split at he
    · rename_i ti hti
      obtain ⟨u, h1, h2⟩ := part_run (w := w) (hΓ.ty _ _ hti) hcs off v he
      refine RunsTo.of (u := u) ?_ h2
      unfold Instr.field
      simp [hu, hf, asAgg, hft, hoff, h1]
    · exact (den_fail he).elim
  · exact (den_fail he).elim

theorem inB_spec {i : Int} {n : Nat} (h : inB i n = true) : 0 ≤ i ∧ i < (n : Int) := by
  simpa [inB] using h

theorem sizeOfA_run (hΓ : TysOk P Γ) {t : Nat} (h0 : sizeOfA Γ t ≠ 0) (w : World) : (sizeOf t).run P w = .ok (sizeOfA Γ t) w := by
  unfold sizeOfA at h0 ⊢
  cases he : Γ.ty t with
  | none => rw [he] at h0; exact absurd rfl h0
  | some ti => exact (hΓ.ty _ _ he).sizeOf w

theorem indexAddrA_run (hΓ : TysOk P Γ) (hs : Sub g h) (hr : Rep β h w base) (t : Nat) (p q : AV) (x y : Value) (hx : VRep β p x) (hy : VRep β q y) (v : AV) (he : (indexAddrA Γ g t p q).den = some v) :
    RunsTo P (Instr.indexAt t x y) w (VRep β v) := by
  unfold indexAddrA at he
  split at he
  · rename_i e _ _ _ _ n off len k i hti
    obtain ⟨d, hu, hd, _⟩ := (hΓ.ty _ _ hti).under
    obtain rfl := dok_slc hd
    split at he
    · rename_i o κ cl hg
      split at he
      · rename_i hsz
        obtain ⟨h1, h2⟩ := den_ifb he
        obtain ⟨h3, h4⟩ := inB_spec h1
        rw [← den_ret h2]
        cases hy
        cases hx with
        | slc _ _ _ l a cap hl hok =>
        have hb := hr.get (hs _ _ hg) trivial hl
        have hes : l.es = κ.size := hb.es
        have hsz' := sizeOfA_run (P := P) hΓ (t := e) (by rw [hsz]; exact Nat.ne_of_gt κ.size_pos) w
        rw [hsz] at hsz'
        obtain ⟨h5, h6⟩ := hok
        rcases h6 with ⟨h6, _⟩ | ⟨h6, h7, _⟩
        · omega
        · subst h6
          have hp := κ.size_pos
          have := VRep.ptr (β := β) n (off + i.toNat) 0 l hl (by omega) (by omega)
          refine RunsTo.of (u := .pointer (some ⟨l.blk, l.off + ((off + i.toNat) * l.es + 0), none⟩)) ?_ this
          unfold Instr.indexAt
          simp [hu, asIntOf, h3, h4, hsz', addr_add, hes, Nat.add_mul, Nat.add_assoc]
      · exact (den_fail he).elim
    · exact (den_fail he).elim
  · rename_i m e _ _ _ _ n k i hti
    obtain ⟨d, hu, hd, _⟩ := (hΓ.ty _ _ hti).under
    obtain rfl := dok_arr hd
    split at he
    · rename_i o κ cl hg
      split at he
      · rename_i hsz
        obtain ⟨h1, h2⟩ := den_ifb he
        simp only [Bool.and_eq_true, decide_eq_true_eq] at h1
        obtain ⟨h3, h4⟩ := inB_spec h1.1
        rw [← den_ret h2]
        cases hy
        cases hx with
        | ptr _ _ _ l hl hi hc =>
        have hb := hr.get (hs _ _ hg) trivial hl
        have hes : l.es = κ.size := hb.es
        have hlen : l.len = cl.length := hb.len
        have hsz' := sizeOfA_run (P := P) hΓ (t := e) (by rw [hsz]; exact Nat.ne_of_gt κ.size_pos) w
        rw [hsz] at hsz'
        have hp := κ.size_pos
        have := VRep.ptr (β := β) n i.toNat 0 l hl (by omega) (by omega)
        refine RunsTo.of (u := .pointer (some ⟨l.blk, l.off + (i.toNat * l.es + 0), none⟩)) ?_ this
        have h4' : i < (m : Int) := by omega
        unfold Instr.indexAt
        simp [hu, asIntOf, h3, h4', hsz', addr_add, hes, Instr.sureAddr]
      · exact (den_fail he).elim
    · exact (den_fail he).elim
  · exact (den_fail he).elim

theorem sget_run {s : ByteArray} {i : Int} (h : inB i s.size = true) : (if 0 ≤ i then s[i.toNat]? else none) = some (s.data.getD i.toNat 0) := by
  obtain ⟨h1, h2⟩ := inB_spec h
  rw [if_pos h1]
  have hlt : i.toNat < s.size := by omega
  have hlt' : i.toNat < s.data.size := hlt
  rw [getElem?_pos s i.toNat hlt]
  simp only [Array.getD]
  rw [dif_pos hlt']
  rfl

theorem VReps.val {κ : EK} {x : κ.den} {us : List Value} (h : VReps β (κ.cells x) us) (h1 : κ.size = 1) : ∃ u, us = [u] ∧ VRep β (κ.val x) u := by
  cases κ with
  | pair a b => have := a.size_pos; have := b.size_pos; simp [EK.size] at h1; omega
  | _ =>
    cases h with
    | cons _ u _ s h1 h2 => cases h2; exact ⟨_, rfl, h1⟩

theorem indexA_run (hΓ : TysOk P Γ) (t : Nat) (p q : AV) (x y : Value) (hx : VRep β p x) (hy : VRep β q y) (v : AV) (he : (indexA Γ t p q).den = some v) :
    RunsTo P (Instr.index t x y) w (VRep β v) := by
  unfold indexA at he
  split at he
  · rename_i s k i hti
    obtain ⟨d, hu, hd, _⟩ := (hΓ.ty _ _ hti).under
    obtain rfl := dok_str hd
    obtain ⟨h1, h2⟩ := den_ifb he
    rw [← den_ret h2]
    cases hx; cases hy
    refine RunsTo.of (u := .int .u8 (sget s i.toNat)) ?_ (.int _ _)
    unfold Instr.index
    simp only [Sem.run_bind, asIntOf, Sem.run_pure, Result.andThen_ok, hu, sget_run h1]
    rfl
  · rename_i m e _ _ _ _ κ l k i hti
    obtain ⟨d, hu, hd, _⟩ := (hΓ.ty _ _ hti).under
    obtain rfl := dok_arr hd
    split at he
    · rename_i te hte
      have hT := hΓ.ty _ _ hte
      split at he
      · rename_i hsz
        obtain ⟨h1, h2⟩ := den_ifb he
        simp only [Bool.and_eq_true, decide_eq_true_eq] at h1
        obtain ⟨h3, h4⟩ := inB_spec h1.1
        cases hy
        cases hx with
        | arv _ _ cs hcs =>
        have hi : i.toNat < l.length := by omega
        have hget := getD_of (d := κ.dflt) hi
        have h4' : i < (m : Int) := by omega
        have hpart : VReps β (κ.cells (l.getD i.toNat κ.dflt)) ((cs.toList.drop (i.toNat * κ.size)).take κ.size) := by
          have := (hcs.drop (i.toNat * κ.size)).take κ.size
          have e2 : ((l.flatMap κ.cells).drop (i.toNat * κ.size)).take κ.size = κ.cells (l.getD i.toNat κ.dflt) := by
            rw [← flat_drop, show κ.size = 1 * κ.size by omega, ← flat_take]
            have : (l.drop i.toNat).take 1 = [l.getD i.toNat κ.dflt] := by
              rw [List.getD_eq_getElem?_getD, List.getElem?_eq_getElem hi, List.drop_eq_getElem_cons hi]; rfl
            rw [this]; simp
          rw [e2] at this
          exact this
        have hrun : (Instr.index t (.agg cs) (.int k i)).run P w = (part e cs (i.toNat * κ.size)).run P w := by
          unfold Instr.index
          simp [hu, asIntOf, h3, h4', hT.sizeOf w, hsz]
        refine RunsTo.eq hrun ?_
        unfold part
        split at h2
        · rename_i ha
          rw [← den_ret h2]
          refine RunsTo.of (u := .agg (cs.extract (i.toNat * κ.size) (i.toNat * κ.size + κ.size))) ?_ (.agg _ _ (by simpa [List.extract_eq_take_drop, List.drop_take] using hpart))
          simp [hT.isAgg w, ha, hT.sizeOf w, hsz]
        · rename_i ha
          split at h2
          · rename_i h1'
            rw [← den_ret h2]
            obtain ⟨u, hus, hv⟩ := hpart.val h1'
            refine RunsTo.of (u := u) ?_ hv
            have hu' : cs[i.toNat * κ.size]? = some u := by
              have := congrArg (fun l => l[0]?) hus
              simpa [List.getElem?_take, h1'] using this
            have ha' : te.isAgg = false := by simpa using ha
            simp [hT.isAgg w, ha', hu']
          · exact (den_fail h2).elim
      · exact (den_fail he).elim
    · exact (den_fail he).elim
  · exact (den_fail he).elim
end
end Go.Ab
