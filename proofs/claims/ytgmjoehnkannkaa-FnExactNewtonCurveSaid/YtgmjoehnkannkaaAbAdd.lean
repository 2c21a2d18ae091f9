/-
  Operations that turn no memory. Part 4: conversions, loads, addresses, parts, slices.
-/
import Derived.Test.YtgmjoehnkannkaaAbMem
namespace Go.Ab
open Go.RowKit

section
variable {P : Program} {t : Nat} {i : TyI}

theorem TyOk.sizeOf (h : TyOk P t i) (w : World) : (sizeOf t).run P w = .ok i.size w := by
  obtain ⟨info, h1, h2, _, _⟩ := h.ex
  rw [run_sizeOf w h1]
  unfold Program.cellsOf
  rw [h1, ← h2]; rfl

theorem TyOk.info (h : TyOk P t i) : ∃ info, (∀ w, (typeInfo t).run P w = .ok info w) ∧ info.bytes = i.bytes ∧ info.size = i.size := by
  obtain ⟨info, h1, h2, h3, _⟩ := h.ex
  exact ⟨info, fun w => run_typeInfo w h1, h3, h2⟩

theorem TyOk.zero (h : TyOk P t i) : ∃ z, (∀ w, (zeroValue t).run P w = .ok z w) ∧ (∀ β, VReps β i.zero z.cells.toList) ∧ z.cells.size = i.size := by
  obtain ⟨info, h1, h2, h3, z, h4, h6, h5⟩ := h.ex
  refine ⟨z, fun w => ?_, h5, h6⟩
  unfold zeroValue
  simp [run_typeInfo w h1, h4]

theorem TyOk.under (h : TyOk P t i) : ∃ d, (∀ w, (underlying t).run P w = .ok d w) ∧ DOk i.d d ∧ P.underlying t = some d := by
  obtain ⟨d, h1, h2⟩ := h.und
  exact ⟨d, fun w => run_underlying h1 w, h2, h1⟩

theorem TyOk.isAgg (h : TyOk P t i) (w : World) : (isAgg t).run P w = .ok i.isAgg w := by
  obtain ⟨d, h1, h2, _⟩ := h.under
  unfold Go.isAgg TyI.isAgg
  rw [Sem.run_bind, h1]
  cases hd : i.d <;> rw [hd] at h2 <;> cases d <;> simp [DOk] at h2 <;> rfl

theorem dok_slc {e : Nat} {d : TypeDesc} (h : DOk (.slc e) d) : d = .slice e := by cases d <;> simp [DOk] at h; rw [h]
theorem dok_arr {n e : Nat} {d : TypeDesc} (h : DOk (.arr n e) d) : d = .array n e := by cases d <;> simp [DOk] at h; rw [h.1, h.2]
theorem dok_str {d : TypeDesc} (h : DOk .str d) : d = .string := by cases d <;> simp [DOk] at h; rfl
theorem dok_int {k : IntKind} {d : TypeDesc} (h : DOk (.int k) d) : d = .int k := by cases d <;> simp [DOk] at h; rw [h]
theorem dok_flt {k : FloatKind} {d : TypeDesc} (h : DOk (.flt k) d) : d = .float k := by cases d <;> simp [DOk] at h; rw [h]
theorem dok_cpx {k : FloatKind} {d : TypeDesc} (h : DOk (.cpx k) d) : d = .complex k := by cases d <;> simp [DOk] at h; rw [h]
theorem dok_struct {fs : List (Nat × Nat)} {d : TypeDesc} (h : DOk (.struct fs) d) : ∃ fs', d = .struct fs' ∧ fs = fs'.toList.map fun f => (f.type, f.offset) := by
  cases d <;> simp [DOk] at h; exact ⟨_, rfl, h⟩
end

section
variable {P : Program} {Γ : Ctx} {β : Bt} {g h : Heap} {w : World} {base : Nat}

theorem floatToInt_run {s : FloatKind} {d : IntKind} {x : Fl s} {a : Nat} (hx : x.Is a) {n : Int} (he : ftoInt x d = some n) : (Conv.floatToInt s a d).run P w = .ok (.int d n) w := by
  rw [← floatToIntVal_is hx] at he
  unfold floatToIntVal at he
  unfold Conv.floatToInt
  split at he
  · rename_i m e
    split at he
    · rename_i hb; cases he; simp [e, hb.1, hb.2]
    · cases he
  · cases he

theorem RunsTo.eq {α : Type} {P : Program} {s s' : Sem α} {w : World} {R : α → Prop} (e : s.run P w = s'.run P w) (h : RunsTo P s' w R) : RunsTo P s w R := by
  obtain ⟨u, n, e', hr⟩ := h
  exact ⟨u, n, e.trans e', hr⟩

theorem conv_ff {src dst : Nat} {ds : TypeDesc} {k : FloatKind} (us : ∀ w, (underlying src).run P w = .ok ds w) (ud : ∀ w, (underlying dst).run P w = .ok (.float k) w) (s : FloatKind) (b : Nat) (w : World) :
    (convert src dst (.float s b)).run P w = (Conv.floatToFloat s b k).run P w := by
  unfold convert
  cases ds <;> simp [us, ud]

theorem conv_cc {src dst : Nat} {ds : TypeDesc} {k : FloatKind} (us : ∀ w, (underlying src).run P w = .ok ds w) (ud : ∀ w, (underlying dst).run P w = .ok (.complex k) w) (s : FloatKind) (a b : Nat) (w : World) :
    (convert src dst (.complex s a b)).run P w = (Conv.complexToComplex s a b k).run P w := by
  unfold convert
  cases ds <;> simp [us, ud]

theorem conv_ii {src dst : Nat} {ds : TypeDesc} {k : IntKind} (us : ∀ w, (underlying src).run P w = .ok ds w) (ud : ∀ w, (underlying dst).run P w = .ok (.int k) w) (s : IntKind) (n : Int) (w : World) :
    (convert src dst (.int s n)).run P w = .ok (.int k (k.wrap n)) w := by
  unfold convert
  cases ds <;> simp [us, ud, Conv.intToInt]

theorem conv_if {src dst : Nat} {ds : TypeDesc} {k : FloatKind} (us : ∀ w, (underlying src).run P w = .ok ds w) (ud : ∀ w, (underlying dst).run P w = .ok (.float k) w) (s : IntKind) (n : Int) (w : World) :
    (convert src dst (.int s n)).run P w = .ok (.float k (k.nearest n)) w := by
  unfold convert
  cases ds <;> simp [us, ud, Conv.intToFloat]

theorem conv_fi {src dst : Nat} {ds : TypeDesc} {k : IntKind} (us : ∀ w, (underlying src).run P w = .ok ds w) (ud : ∀ w, (underlying dst).run P w = .ok (.int k) w) (s : FloatKind) (b : Nat) (w : World) :
    (convert src dst (.float s b)).run P w = (Conv.floatToInt s b k).run P w := by
  unfold convert
  cases ds <;> simp [us, ud]

theorem conv_ss {src dst : Nat} {ds : TypeDesc} (us : ∀ w, (underlying src).run P w = .ok ds w) (ud : ∀ w, (underlying dst).run P w = .ok .string w) (s : ByteArray) (w : World) :
    (convert src dst (.string s)).run P w = .ok (.string s) w := by
  unfold convert
  cases ds <;> simp [us, ud]

theorem conv_bs {src dst e : Nat} (us : ∀ w, (underlying src).run P w = .ok (.slice e) w) (ud : ∀ w, (underlying dst).run P w = .ok .string w) (ue : ∀ w, (underlying e).run P w = .ok (.int .u8) w) (a : Option Addr) (len cap : Nat) (w : World) :
    (convert src dst (.slice a len cap)).run P w = (Conv.bytesToString (.slice a len cap)).run P w := by
  unfold convert
  cases a <;> simp [us, ud, ue]

theorem convertA_run (hΓ : TysOk P Γ) (hs : Sub g h) (hr : Rep β h w base) (src dst : Nat) (a : AV) (x : Value) (hx : VRep β a x) (v : AV) (he : (convertA Γ g src dst a).den = some v) :
    RunsTo P (convert src dst x) w (VRep β v) := by
  unfold convertA at he
  split at he
  · rename_i ts td hts htd
    obtain ⟨ds, us, us', _⟩ := (hΓ.ty _ _ hts).under
    obtain ⟨dd, ud, ud', _⟩ := (hΓ.ty _ _ htd).under
    split at he
    · -- int of int
      rename_i k k' n hd
      cases hx
      rw [hd] at ud'
      obtain rfl := dok_int ud'
      rw [← den_ret he]
      exact RunsTo.of (conv_ii us ud _ _ _) (.int _ _)
    · rename_i k k' n hd
      cases hx
      rw [hd] at ud'
      obtain rfl := dok_flt ud'
      rw [← den_ret he]
      exact RunsTo.of (conv_if us ud _ _ _) (.flt _ _ _ (Fl.is_of (nearest_wf k n)))
    · rename_i k k' y hd
      cases hx with
      | flt _ _ b hb =>
      rw [hd] at ud'
      obtain rfl := dok_int ud'
      obtain ⟨n, h1, h2⟩ := den_bnd he
      rw [← den_ret h2]
      exact RunsTo.of ((conv_fi us ud _ _ _).trans (floatToInt_run hb h1)) (.int _ _)
    · -- widening
      rename_i y hd
      cases hx with
      | flt _ _ b hb =>
      rw [hd] at ud'
      obtain rfl := dok_flt ud'
      rw [← den_ret he]
      refine RunsTo.eq (conv_ff us ud _ _ _) ?_
      obtain ⟨u, n, e, r, rfl, hr'⟩ := fconv_run (P := P) (by decide) hb (fconv_fwide y) w
      exact ⟨_, n, e, .flt _ _ _ hr'⟩
    · rename_i y hd
      cases hx with
      | flt _ _ b hb =>
      rw [hd] at ud'
      obtain rfl := dok_flt ud'
      rw [← den_ret he]
      exact RunsTo.eq (conv_ff us ud _ _ _) (RunsTo.of (u := .float .f32 b) (by simp [Conv.floatToFloat]) (.flt _ _ _ hb))
    · rename_i y hd
      cases hx with
      | flt _ _ b hb =>
      rw [hd] at ud'
      obtain rfl := dok_flt ud'
      rw [← den_ret he]
      exact RunsTo.eq (conv_ff us ud _ _ _) (RunsTo.of (u := .float .f64 b) (by simp [Conv.floatToFloat]) (.flt _ _ _ hb))
    · rename_i y hd
      cases hx with
      | flt _ _ b hb =>
      rw [hd] at ud'
      obtain rfl := dok_flt ud'
      obtain ⟨z, h1, h2⟩ := den_bnd he
      rw [← den_ret h2]
      refine RunsTo.eq (conv_ff us ud _ _ _) ?_
      obtain ⟨u, n, e, r, rfl, hr'⟩ := fconv_run (P := P) (by decide) hb h1 w
      exact ⟨_, n, e, .flt _ _ _ hr'⟩
    · rename_i y z hd
      cases hx with
      | cpx _ _ _ b c hb hc =>
      rw [hd] at ud'
      obtain rfl := dok_cpx ud'
      rw [← den_ret he]
      refine RunsTo.eq (conv_cc us ud _ _ _ _) ?_
      unfold Conv.complexToComplex
      refine (fconv_run (P := P) (by decide) hb (fconv_fwide y) w).bind ?_
      rintro _ ⟨r, rfl, hr1⟩ n
      refine (fconv_run (P := P) (by decide) hc (fconv_fwide z) _).bind ?_
      rintro _ ⟨r', rfl, hr2⟩ n'
      exact RunsTo.of rfl (.cpx _ _ _ _ _ hr1 hr2)
    · rename_i y z hd
      cases hx with
      | cpx _ _ _ b c hb hc =>
      rw [hd] at ud'
      obtain rfl := dok_cpx ud'
      rw [← den_ret he]
      exact RunsTo.eq (conv_cc us ud _ _ _ _) (RunsTo.of (u := .complex .f32 b c) (by simp [Conv.complexToComplex, Conv.floatToFloat]) (.cpx _ _ _ _ _ hb hc))
    · rename_i y z hd
      cases hx with
      | cpx _ _ _ b c hb hc =>
      rw [hd] at ud'
      obtain rfl := dok_cpx ud'
      rw [← den_ret he]
      exact RunsTo.eq (conv_cc us ud _ _ _ _) (RunsTo.of (u := .complex .f64 b c) (by simp [Conv.complexToComplex, Conv.floatToFloat]) (.cpx _ _ _ _ _ hb hc))
    · rename_i y z hd
      cases hx with
      | cpx _ _ _ b c hb hc =>
      rw [hd] at ud'
      obtain rfl := dok_cpx ud'
      obtain ⟨z1, h1, h2⟩ := den_bnd he
      obtain ⟨z2, h3, h4⟩ := den_bnd h2
      rw [← den_ret h4]
      refine RunsTo.eq (conv_cc us ud _ _ _ _) ?_
      unfold Conv.complexToComplex
      refine (fconv_run (P := P) (by decide) hb h1 w).bind ?_
      rintro _ ⟨r, rfl, hr1⟩ n
      refine (fconv_run (P := P) (by decide) hc h3 _).bind ?_
      rintro _ ⟨r', rfl, hr2⟩ n'
      exact RunsTo.of rfl (.cpx _ _ _ _ _ hr1 hr2)
    · rename_i s hd
      cases hx
      rw [hd] at ud'
      obtain rfl := dok_str ud'
      rw [← den_ret he]
      exact RunsTo.of (conv_ss us ud _ _) (.str _)
    · -- string of bytes
      rename_i n off len hd
      rw [hd] at ud'
      obtain rfl := dok_str ud'
      split at he
      · rename_i e o l hts' hg
        rw [hts'] at us'
        obtain rfl := dok_slc us'
        split at he
        · rename_i hte
          obtain ⟨de, ue, ue', _⟩ := (hΓ.ty _ _ hte).under
          obtain rfl := dok_int ue'
          rw [← den_ret he]
          obtain ⟨ad, cap, rfl, hlen, hcells⟩ := slc_cells hr (hs _ _ hg) hx
          refine RunsTo.eq (conv_bs us ud ue _ _ _ _) ?_
          rcases hcells with h0 | ⟨blk, o', rfl, hc⟩
          · subst h0
            have hsub : sub l off 0 = [] := List.eq_nil_of_length_eq_zero hlen
            refine RunsTo.of (u := .string (bytesOf (sub l off 0))) ?_ (.str _)
            rw [hsub]
            cases ad with
            | none => simp [Conv.bytesToString, bytesOf]; rfl
            | some ad => simp [Conv.bytesToString, loadCells, loadCellsFrom, bytesOf]; rfl
          · obtain ⟨uss, h1, h2, h3⟩ := load_cells (P := P) hc
            have hl2 : ((sub l off len).flatMap (EK.int IntKind.u8).cells).length = len := by rw [flat_length, hlen]; simp [EK.size]
            rw [hl2] at h1 h3
            have h4 := ints_of_reps _ _ h2
            refine RunsTo.of (u := .string (bytesOf (sub l off len))) ?_ (.str _)
            simp only [Conv.bytesToString, Sem.run_bind, h3, Result.andThen_ok]
            simp only [Array.forIn_toList.symm]
            rw [bytesLoop (P := P) _ (fun _ _ => rfl) w (sub l off len) uss ByteArray.empty h4]
            simp [bytesOf]
        · exact (den_fail he).elim
      · exact (den_fail he).elim
    · exact (den_fail he).elim
  · exact (den_fail he).elim
end
end Go.Ab
