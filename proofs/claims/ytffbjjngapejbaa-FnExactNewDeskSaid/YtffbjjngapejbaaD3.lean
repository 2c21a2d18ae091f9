/- Desks: copies, counts, comparisons of what is the same. No condition. -/
import Derived.Test.YtffbjjngapejbaaD2
namespace Go.Proofs.Ytffbjjngapejbaa
open Go.Ab
theorem szF_no {n : Int} {k m : Nat} (h : n < (k : Int)) : szF n (k + m) = -1 ∧ szF n k = -1 := by
  unfold szF
  rw [if_pos (by omega), if_pos h]; exact ⟨rfl, rfl⟩
theorem szF_yes {n : Int} {k m : Nat} (h : ¬ n < (k : Int)) : szF n (k + m) = szF (n - k) m ∧ szF n k = n - k := by
  unfold szF
  rw [if_neg h]
  by_cases c : n - k < (m : Int)
  · rw [if_pos (by omega), if_pos c]; exact ⟨rfl, rfl⟩
  · rw [if_neg (by omega), if_neg c]; exact ⟨by omega, rfl⟩
/-- a chain of counts -/
theorem sz_chain {n : Int} {k m : Nat} (h : 0 ≤ n) {K : Int → Option Int} (hK : ¬ n < (k : Int) → K (n - k) = some (szF (n - k) m)) : (bif decide (szF n k < 0) then some (-1) else K (szF n k)) = some (szF n (k + m)) := by
  by_cases c : n < (k : Int)
  · obtain ⟨e1, e2⟩ := szF_no (m := m) c
    rw [e1, e2]; rfl
  · obtain ⟨e1, e2⟩ := szF_yes (m := m) c
    rw [e1, e2, decide_eq_false (by omega), cond_false]
    exact hK c
theorem sz_end {n : Int} {k : Nat} (h : 0 ≤ n) : (bif decide (szF n k < 0) then some (-1) else some (szF n k)) = some (szF n k) := by
  unfold szF
  by_cases c : n < (k : Int)
  · rw [if_pos c]; rfl
  · rw [if_neg c, decide_eq_false (by omega)]; rfl
def szG (x : LS × Int) : Option Int := if 0 ≤ x.2 ∧ x.2 ≤ 2 ^ 20 ∧ x.1.length ≤ maxLen then some (szF x.2 x.1.length) else none
def szS : FSpec := ⟨[L32, I64], [I64], szG⟩
def loops_szL (_ _ _ : Nat) : Option LSpec := none
noncomputable def ss_szL : List (Nat × FSpec) := []
theorem ssOk_szL : FTolds Try.prog ss_szL := trivial
noncomputable def Γ_szL : Ctx := ctxOf Try.prog tys fs ss_szL loops_szL
noncomputable def d_szL (l : LS) (n : Int) : Option (Int) := bif decide (IntKind.i64.wrap (n - ((List.length l : Nat) : Int)) < 0) then (some (-1)) else (some (IntKind.i64.wrap (n - ((List.length l : Nat) : Int))))
theorem t_szL (l : LS) (n : Int) : (fnT Γ_szL 10 70 [L32, I64] [I64] (l, n)).den = d_szL l n := by kernel_rfl
theorem p_szL (l : LS) (n : Int) (r : Int) (h : szG (l, n) = some r) : d_szL l n = some r := by
  obtain ⟨⟨h0, h1, h2⟩, rfl⟩ := if_some (show (if 0 ≤ n ∧ n ≤ 2 ^ 20 ∧ List.length l ≤ maxLen then some (szF n (List.length l)) else none) = some r from h)
  have hm : maxLen = 9223372036854775807 := rfl
  unfold d_szL
  rw [wrap64 (by omega) (by omega)]
  unfold szF
  by_cases h : n < (l.length : Int)
  · rw [if_pos h, decide_eq_true (show n - (l.length : Int) < 0 by omega)]; rfl
  · rw [if_neg h, decide_eq_false (show ¬ n - (l.length : Int) < 0 by omega)]; rfl
theorem s_szL : FTold Try.prog 70 szS := walkedF (fs := fs) (ss := ss_szL) (loop := loops_szL) tysOk mixed fnsOk ssOk_szL 10 70 [L32, I64] [I64] rfl _ fun (l, n) r h => (t_szL l n).trans (p_szL l n r h)
def szIG (x : LI × Int) : Option Int := if 0 ≤ x.2 ∧ x.2 ≤ 2 ^ 20 ∧ x.1.length ≤ maxLen then some (szF x.2 x.1.length) else none
def szIS : FSpec := ⟨[L64, I64], [I64], szIG⟩
def loops_szI (_ _ _ : Nat) : Option LSpec := none
noncomputable def ss_szI : List (Nat × FSpec) := []
theorem ssOk_szI : FTolds Try.prog ss_szI := trivial
noncomputable def Γ_szI : Ctx := ctxOf Try.prog tys fs ss_szI loops_szI
noncomputable def d_szI (l : LI) (n : Int) : Option (Int) := bif decide (IntKind.i64.wrap (n - ((List.length l : Nat) : Int)) < 0) then (some (-1)) else (some (IntKind.i64.wrap (n - ((List.length l : Nat) : Int))))
theorem t_szI (l : LI) (n : Int) : (fnT Γ_szI 10 108 [L64, I64] [I64] (l, n)).den = d_szI l n := by kernel_rfl
theorem p_szI (l : LI) (n : Int) (r : Int) (h : szIG (l, n) = some r) : d_szI l n = some r := by
  obtain ⟨⟨h0, h1, h2⟩, rfl⟩ := if_some (show (if 0 ≤ n ∧ n ≤ 2 ^ 20 ∧ List.length l ≤ maxLen then some (szF n (List.length l)) else none) = some r from h)
  have hm : maxLen = 9223372036854775807 := rfl
  unfold d_szI
  rw [wrap64 (by omega) (by omega)]
  unfold szF
  by_cases h : n < (l.length : Int)
  · rw [if_pos h, decide_eq_true (show n - (l.length : Int) < 0 by omega)]; rfl
  · rw [if_neg h, decide_eq_false (show ¬ n - (l.length : Int) < 0 by omega)]; rfl
theorem s_szI : FTold Try.prog 108 szIS := walkedF (fs := fs) (ss := ss_szI) (loop := loops_szI) tysOk mixed fnsOk ssOk_szI 10 108 [L64, I64] [I64] rfl _ fun (l, n) r h => (t_szI l n).trans (p_szI l n r h)
def szFG (x : FieldT × Int) : Option Int := if 0 ≤ x.2 ∧ x.2 ≤ 2 ^ 20 ∧ x.1.2.2.2.length ≤ maxLen then some (szF x.2 x.1.2.2.2.length) else none
def szFS : FSpec := ⟨[FieldD, I64], [I64], szFG⟩
def loops_szFd (_ _ _ : Nat) : Option LSpec := none
noncomputable def ss_szFd : List (Nat × FSpec) := [(70, szS)]
theorem ssOk_szFd : FTolds Try.prog ss_szFd := ⟨s_szL, trivial⟩
noncomputable def Γ_szFd : Ctx := ctxOf Try.prog tys fs ss_szFd loops_szFd
noncomputable def d_szFd (w1 : Int) (h1 : Int) (o1 : Bool) (v1 : LS) (n : Int) : Option (Int) := Option.bind (szG (sub v1 0 (List.length v1), n)) fun (r0 : Int) => (bif decide (r0 < 0) then (some (-1)) else (some (r0)))
theorem t_szFd (w1 : Int) (h1 : Int) (o1 : Bool) (v1 : LS) (n : Int) : (fnT Γ_szFd 10 107 [FieldD, I64] [I64] ((w1, h1, o1, v1), n)).den = d_szFd w1 h1 o1 v1 n := by kernel_rfl
theorem p_szFd (w1 : Int) (h1 : Int) (o1 : Bool) (v1 : LS) (n : Int) (r : Int) (h : szFG ((w1, h1, o1, v1), n) = some r) : d_szFd w1 h1 o1 v1 n = some r := by
  obtain ⟨⟨p0, p1, p2⟩, rfl⟩ := if_some (show (if 0 ≤ n ∧ n ≤ 2 ^ 20 ∧ List.length v1 ≤ maxLen then some (szF n (List.length v1)) else none) = some r from h)
  have k : szG (v1, n) = some (szF n v1.length) := if_pos ⟨p0, p1, p2⟩
  unfold d_szFd
  simp only [sub_all, k, Option.bind_some]
  exact sz_end p0
theorem s_szFd : FTold Try.prog 107 szFS := walkedF (fs := fs) (ss := ss_szFd) (loop := loops_szFd) tysOk mixed fnsOk ssOk_szFd 10 107 [FieldD, I64] [I64] rfl _ fun ((w1, h1, o1, v1), n) r h => (t_szFd w1 h1 o1 v1 n).trans (p_szFd w1 h1 o1 v1 n r h)
def szMG (x : MeltT × Int) : Option Int := if 0 ≤ x.2 ∧ x.2 ≤ 2 ^ 20 ∧ x.1.2.2.2.1.length ≤ maxLen ∧ x.1.2.2.2.2.2.2.2.1.length ≤ maxLen then some (szF x.2 (x.1.2.2.2.1.length + x.1.2.2.2.2.2.2.2.1.length)) else none
def szMS : FSpec := ⟨[MeltD, I64], [I64], szMG⟩
def loops_szM (_ _ _ : Nat) : Option LSpec := none
noncomputable def ss_szM : List (Nat × FSpec) := [(107, szFS)]
theorem ssOk_szM : FTolds Try.prog ss_szM := ⟨s_szFd, trivial⟩
noncomputable def Γ_szM : Ctx := ctxOf Try.prog tys fs ss_szM loops_szM
noncomputable def d_szM (w1 : Int) (h1 : Int) (o1 : Bool) (v1 : LS) (w2 : Int) (h2 : Int) (o2 : Bool) (v2 : LS) (a1 : Fl .f32) (a2 : Fl .f32) (a3 : Fl .f32) (a4 : Fl .f32) (a5 : Fl .f32) (fo : Int) (n : Int) : Option (Int) := Option.bind (szFG ((w1, h1, o1, sub v1 0 (List.length v1)), n)) fun (r0 : Int) => (bif decide (r0 < 0) then (some (-1)) else (Option.bind (szFG ((w2, h2, o2, sub v2 0 (List.length v2)), r0)) fun (r1 : Int) => (bif decide (r1 < 0) then (some (-1)) else (some (r1)))))
theorem t_szM (w1 : Int) (h1 : Int) (o1 : Bool) (v1 : LS) (w2 : Int) (h2 : Int) (o2 : Bool) (v2 : LS) (a1 : Fl .f32) (a2 : Fl .f32) (a3 : Fl .f32) (a4 : Fl .f32) (a5 : Fl .f32) (fo : Int) (n : Int) : (fnT Γ_szM 10 43 [MeltD, I64] [I64] ((w1, h1, o1, v1, w2, h2, o2, v2, a1, a2, a3, a4, a5, fo), n)).den = d_szM w1 h1 o1 v1 w2 h2 o2 v2 a1 a2 a3 a4 a5 fo n := by kernel_rfl
theorem p_szM (w1 : Int) (h1 : Int) (o1 : Bool) (v1 : LS) (w2 : Int) (h2 : Int) (o2 : Bool) (v2 : LS) (a1 : Fl .f32) (a2 : Fl .f32) (a3 : Fl .f32) (a4 : Fl .f32) (a5 : Fl .f32) (fo : Int) (n : Int) (r : Int) (h : szMG ((w1, h1, o1, v1, w2, h2, o2, v2, a1, a2, a3, a4, a5, fo), n) = some r) : d_szM w1 h1 o1 v1 w2 h2 o2 v2 a1 a2 a3 a4 a5 fo n = some r := by
  obtain ⟨⟨p0, p1, p2, p3⟩, rfl⟩ := if_some (show (if 0 ≤ n ∧ n ≤ 2 ^ 20 ∧ List.length v1 ≤ maxLen ∧ List.length v2 ≤ maxLen then some (szF n (List.length v1 + List.length v2)) else none) = some r from h)
  have k : szFG ((w1, h1, o1, v1), n) = some (szF n v1.length) := if_pos ⟨p0, p1, p2⟩
  unfold d_szM
  simp only [sub_all, k, Option.bind_some]
  refine sz_chain (K := fun m => Option.bind (szFG ((w2, h2, o2, v2), m)) fun (o1 : Int) => (bif decide (o1 < 0) then (some (-1)) else (some (o1)))) p0 (fun hc => ?_)
  have k2 : szFG ((w2, h2, o2, v2), n - (v1.length : Int)) = some (szF (n - (v1.length : Int)) v2.length) := if_pos ⟨show 0 ≤ n - (v1.length : Int) by omega, show n - (v1.length : Int) ≤ 2 ^ 20 by omega, p3⟩
  simp only [k2, Option.bind_some]
  exact sz_end (by omega)
theorem s_szM : FTold Try.prog 43 szMS := walkedF (fs := fs) (ss := ss_szM) (loop := loops_szM) tysOk mixed fnsOk ssOk_szM 10 43 [MeltD, I64] [I64] rfl _ fun ((w1, h1, o1, v1, w2, h2, o2, v2, a1, a2, a3, a4, a5, fo), n) r h => (t_szM w1 h1 o1 v1 w2 h2 o2 v2 a1 a2 a3 a4 a5 fo n).trans (p_szM w1 h1 o1 v1 w2 h2 o2 v2 a1 a2 a3 a4 a5 fo n r h)
def szGG (x : GrT × Int) : Option Int := if 0 ≤ x.2 ∧ x.2 ≤ 2 ^ 20 ∧ x.1.2.2.length ≤ maxLen then some (szF x.2 x.1.2.2.length) else none
def szGS : FSpec := ⟨[GrD, I64], [I64], szGG⟩
def loops_szGr (_ _ _ : Nat) : Option LSpec := none
noncomputable def ss_szGr : List (Nat × FSpec) := [(108, szIS)]
theorem ssOk_szGr : FTolds Try.prog ss_szGr := ⟨s_szI, trivial⟩
noncomputable def Γ_szGr : Ctx := ctxOf Try.prog tys fs ss_szGr loops_szGr
noncomputable def d_szGr (gw : Int) (gh : Int) (gl : LI) (n : Int) : Option (Int) := Option.bind (szIG (sub gl 0 (List.length gl), n)) fun (r0 : Int) => (bif decide (r0 < 0) then (some (-1)) else (some (r0)))
theorem t_szGr (gw : Int) (gh : Int) (gl : LI) (n : Int) : (fnT Γ_szGr 10 44 [GrD, I64] [I64] ((gw, gh, gl), n)).den = d_szGr gw gh gl n := by kernel_rfl
theorem p_szGr (gw : Int) (gh : Int) (gl : LI) (n : Int) (r : Int) (h : szGG ((gw, gh, gl), n) = some r) : d_szGr gw gh gl n = some r := by
  obtain ⟨⟨p0, p1, p2⟩, rfl⟩ := if_some (show (if 0 ≤ n ∧ n ≤ 2 ^ 20 ∧ List.length gl ≤ maxLen then some (szF n (List.length gl)) else none) = some r from h)
  have k : szIG (gl, n) = some (szF n gl.length) := if_pos ⟨p0, p1, p2⟩
  unfold d_szGr
  simp only [sub_all, k, Option.bind_some]
  exact sz_end p0
theorem s_szGr : FTold Try.prog 44 szGS := walkedF (fs := fs) (ss := ss_szGr) (loop := loops_szGr) tysOk mixed fnsOk ssOk_szGr 10 44 [GrD, I64] [I64] rfl _ fun ((gw, gh, gl), n) r h => (t_szGr gw gh gl n).trans (p_szGr gw gh gl n r h)
def szKG (x : FlT × Int) : Option Int := if 0 ≤ x.2 ∧ x.2 ≤ 2 ^ 20 ∧ x.1.2.length ≤ maxLen then some (szF x.2 x.1.2.length) else none
def szKS : FSpec := ⟨[FlD, I64], [I64], szKG⟩
def loops_szFl (_ _ _ : Nat) : Option LSpec := none
noncomputable def ss_szFl : List (Nat × FSpec) := [(70, szS)]
theorem ssOk_szFl : FTolds Try.prog ss_szFl := ⟨s_szL, trivial⟩
noncomputable def Γ_szFl : Ctx := ctxOf Try.prog tys fs ss_szFl loops_szFl
noncomputable def d_szFl (sd : Int) (sv : LS) (n : Int) : Option (Int) := Option.bind (szG (sub sv 0 (List.length sv), n)) fun (r0 : Int) => (bif decide (r0 < 0) then (some (-1)) else (some (r0)))
theorem t_szFl (sd : Int) (sv : LS) (n : Int) : (fnT Γ_szFl 10 20 [FlD, I64] [I64] ((sd, sv), n)).den = d_szFl sd sv n := by kernel_rfl
theorem p_szFl (sd : Int) (sv : LS) (n : Int) (r : Int) (h : szKG ((sd, sv), n) = some r) : d_szFl sd sv n = some r := by
  obtain ⟨⟨p0, p1, p2⟩, rfl⟩ := if_some (show (if 0 ≤ n ∧ n ≤ 2 ^ 20 ∧ List.length sv ≤ maxLen then some (szF n (List.length sv)) else none) = some r from h)
  have k : szG (sv, n) = some (szF n sv.length) := if_pos ⟨p0, p1, p2⟩
  unfold d_szFl
  simp only [sub_all, k, Option.bind_some]
  exact sz_end p0
theorem s_szFl : FTold Try.prog 20 szKS := walkedF (fs := fs) (ss := ss_szFl) (loop := loops_szFl) tysOk mixed fnsOk ssOk_szFl 10 20 [FlD, I64] [I64] rfl _ fun ((sd, sv), n) r h => (t_szFl sd sv n).trans (p_szFl sd sv n r h)
def l1 (x : DeskT) : LS := x.2.2.2.1
def l2 (x : DeskT) : LS := x.2.2.2.2.2.2.2.1
def l3 (x : DeskT) : LI := x.2.2.2.2.2.2.2.2.2.2.2.2.2.2.2.2.1
def l4 (x : DeskT) : LS := x.2.2.2.2.2.2.2.2.2.2.2.2.2.2.2.2.2.2.1
def lensB (x : DeskT) (b : Nat) : Prop := (l1 x).length ≤ b ∧ (l2 x).length ≤ b ∧ (l3 x).length ≤ b ∧ (l4 x).length ≤ b
instance (x : DeskT) (b : Nat) : Decidable (lensB x b) := by unfold lensB; exact inferInstance
def lenD (x : DeskT) : Nat := (l1 x).length + (l2 x).length + ((l3 x).length + (l4 x).length)
def szDG (x : DeskT × Int) : Option Int := if 0 ≤ x.2 ∧ x.2 ≤ 2 ^ 20 ∧ lensB x.1 maxLen then some (szF x.2 (lenD x.1)) else none
def szDS : FSpec := ⟨[DeskD, I64], [I64], szDG⟩
def loops_szD (_ _ _ : Nat) : Option LSpec := none
noncomputable def ss_szD : List (Nat × FSpec) := [(43, szMS), (44, szGS), (20, szKS)]
theorem ssOk_szD : FTolds Try.prog ss_szD := ⟨s_szM, s_szGr, s_szFl, trivial⟩
noncomputable def Γ_szD : Ctx := ctxOf Try.prog tys fs ss_szD loops_szD
noncomputable def d_szD (w1 : Int) (h1 : Int) (o1 : Bool) (v1 : LS) (w2 : Int) (h2 : Int) (o2 : Bool) (v2 : LS) (a1 : Fl .f32) (a2 : Fl .f32) (a3 : Fl .f32) (a4 : Fl .f32) (a5 : Fl .f32) (fo : Int) (gw : Int) (gh : Int) (gl : LI) (sd : Int) (sv : LS) (se : Int) (n : Int) : Option (Int) := Option.bind (szMG ((w1, h1, o1, sub v1 0 (List.length v1), w2, h2, o2, sub v2 0 (List.length v2), a1, a2, a3, a4, a5, fo), n)) fun (r0 : Int) => (bif decide (r0 < 0) then (some (-1)) else (Option.bind (szGG ((gw, gh, sub gl 0 (List.length gl)), r0)) fun (r1 : Int) => (bif decide (r1 < 0) then (some (-1)) else (Option.bind (szKG ((sd, sub sv 0 (List.length sv)), r1)) fun (r2 : Int) => (bif decide (r2 < 0) then (some (-1)) else (some (r2)))))))
theorem t_szD (w1 : Int) (h1 : Int) (o1 : Bool) (v1 : LS) (w2 : Int) (h2 : Int) (o2 : Bool) (v2 : LS) (a1 : Fl .f32) (a2 : Fl .f32) (a3 : Fl .f32) (a4 : Fl .f32) (a5 : Fl .f32) (fo : Int) (gw : Int) (gh : Int) (gl : LI) (sd : Int) (sv : LS) (se : Int) (n : Int) : (fnT Γ_szD 10 9 [DeskD, I64] [I64] ((w1, h1, o1, v1, w2, h2, o2, v2, a1, a2, a3, a4, a5, fo, gw, gh, gl, sd, sv, se), n)).den = d_szD w1 h1 o1 v1 w2 h2 o2 v2 a1 a2 a3 a4 a5 fo gw gh gl sd sv se n := by kernel_rfl
theorem p_szD (w1 : Int) (h1 : Int) (o1 : Bool) (v1 : LS) (w2 : Int) (h2 : Int) (o2 : Bool) (v2 : LS) (a1 : Fl .f32) (a2 : Fl .f32) (a3 : Fl .f32) (a4 : Fl .f32) (a5 : Fl .f32) (fo : Int) (gw : Int) (gh : Int) (gl : LI) (sd : Int) (sv : LS) (se : Int) (n : Int) (r : Int) (h : szDG ((w1, h1, o1, v1, w2, h2, o2, v2, a1, a2, a3, a4, a5, fo, gw, gh, gl, sd, sv, se), n) = some r) : d_szD w1 h1 o1 v1 w2 h2 o2 v2 a1 a2 a3 a4 a5 fo gw gh gl sd sv se n = some r := by
  obtain ⟨⟨p0, p1, p2, p3, p4, p5⟩, rfl⟩ := if_some (show (if 0 ≤ n ∧ n ≤ 2 ^ 20 ∧ lensB (w1, h1, o1, v1, w2, h2, o2, v2, a1, a2, a3, a4, a5, fo, gw, gh, gl, sd, sv, se) maxLen then some (szF n (lenD (w1, h1, o1, v1, w2, h2, o2, v2, a1, a2, a3, a4, a5, fo, gw, gh, gl, sd, sv, se))) else none) = some r from h)
  have k : szMG ((w1, h1, o1, v1, w2, h2, o2, v2, a1, a2, a3, a4, a5, fo), n) = some (szF n (v1.length + v2.length)) := if_pos ⟨p0, p1, p2, p3⟩
  unfold d_szD
  simp only [sub_all, k, Option.bind_some]
  show _ = some (szF n ((v1.length + v2.length) + (gl.length + sv.length)))
  refine sz_chain (K := fun m => Option.bind (szGG ((gw, gh, gl), m)) fun (o1 : Int) => (bif decide (o1 < 0) then (some (-1)) else (Option.bind (szKG ((sd, sv), o1)) fun (o2 : Int) => (bif decide (o2 < 0) then (some (-1)) else (some (o2)))))) p0 (fun hc => ?_)
  generalize hn : n - ((v1.length + v2.length : Nat) : Int) = m
  have m0 : 0 ≤ m := by omega
  have m1 : m ≤ 2 ^ 20 := by omega
  have k2 : szGG ((gw, gh, gl), m) = some (szF m gl.length) := if_pos ⟨m0, m1, p4⟩
  simp only [k2, Option.bind_some]
  refine sz_chain (K := fun m => Option.bind (szKG ((sd, sv), m)) fun (o2 : Int) => (bif decide (o2 < 0) then (some (-1)) else (some (o2)))) m0 (fun hd => ?_)
  have k3 : szKG ((sd, sv), m - (gl.length : Int)) = some (szF (m - (gl.length : Int)) sv.length) := if_pos ⟨show 0 ≤ m - (gl.length : Int) by omega, show m - (gl.length : Int) ≤ 2 ^ 20 by omega, p5⟩
  simp only [k3, Option.bind_some]
  exact sz_end (by omega)
theorem s_szD : FTold Try.prog 9 szDS := walkedF (fs := fs) (ss := ss_szD) (loop := loops_szD) tysOk mixed fnsOk ssOk_szD 10 9 [DeskD, I64] [I64] rfl _ fun ((w1, h1, o1, v1, w2, h2, o2, v2, a1, a2, a3, a4, a5, fo, gw, gh, gl, sd, sv, se), n) r h => (t_szD w1 h1 o1 v1 w2 h2 o2 v2 a1 a2 a3 a4 a5 fo gw gh gl sd sv se n).trans (p_szD w1 h1 o1 v1 w2 h2 o2 v2 a1 a2 a3 a4 a5 fo gw gh gl sd sv se n r h)
def copyIG (l : LI) : Option LI := if l.length ≤ 2 ^ 40 then some l else none
def copyIS : FSpec := ⟨[L64], [L64], copyIG⟩
def L_toI_1 : LSpec := ⟨[0, 3, 4], ⟨Shs.at 22 [(0, (.slc 2)), (3, (.slc 2146435264)), (4, (.int IntKind.i64))], [(2, (.arr false (EK.int IntKind.i64))), (2146435264, (.arr true (EK.int IntKind.i64)))]⟩, [⟨.ext 0, [3], ⟨Shs.at 22 [(3, (.slc 2146435264))], [(2, (.arr false (EK.int IntKind.i64))), (2146435264, (.arr true (EK.int IntKind.i64)))]⟩⟩], fun _ => bigN⟩
def loops_toI (f k n : Nat) : Option LSpec := bif (Nat.beq f 114 && Nat.beq k 3 && Nat.beq n 1) then some L_toI_1 else none
abbrev S_toI_1 : Type := ((Nat × (Nat × (Int × Unit))) × ((List Int) × ((List Int) × Unit)))
abbrev R_toI_1 : Type := ((Nat × Unit) × ((List Int) × ((List Int) × Unit)))
noncomputable def B_toI_1 (y : S_toI_1) : Option (S_toI_1 ⊕ R_toI_1) := bif decide (y.1.2.2.1 < (y.1.1 : Int)) then (bif inB y.1.2.2.1 y.1.1 then (bif inB y.1.2.2.1 y.1.2.1 then (some (Sum.inl (((y.1.1, (y.1.2.1, (IntKind.i64.wrap (y.1.2.2.1 + 1), ()))), (y.2.1, (List.set y.2.2.1 (0 + Int.toNat y.1.2.2.1) (List.getD y.2.1 (0 + Int.toNat y.1.2.2.1) (0 : Int)), ())))))) else (none)) else (none)) else (some (Sum.inr (((y.1.2.1, ()), (y.2.1, (y.2.2.1, ()))))))
noncomputable def ss_toI : List (Nat × FSpec) := []
theorem ssOk_toI : FTolds Try.prog ss_toI := trivial
noncomputable def Γ_toI : Ctx := ctxOf Try.prog tys fs ss_toI loops_toI
noncomputable def d_toI (l : LI) : Option ((List Int)) := bif decide (0 ≤ ((List.length l : Nat) : Int)) && decide ((8 : Int) * ((List.length l : Nat) : Int) ≤ (140737488355328 : Int)) then (Option.bind (iter B_toI_1 bigN (((List.length l, ((((List.length l : Nat) : Int)).toNat, (0, ()))), (l, (List.replicate (((List.length l : Nat) : Int)).toNat 0, ()))))) fun (r0 : ((Nat × Unit) × ((List Int) × ((List Int) × Unit)))) => (some (sub r0.2.2.1 0 r0.1.1))) else (none)
theorem t_toI (l : LI) : (fnT Γ_toI 10 114 [L64] [L64] l).den = d_toI l := by kernel_rfl
theorem p_toI (l : LI) (r : (List Int)) (h : copyIG l = some r) : d_toI l = some r := by
  obtain ⟨hb, rfl⟩ := if_some (show (if List.length l ≤ 2 ^ 40 then some l else none) = some r from h)
  unfold d_toI
  have h1 : decide ((0 : Int) ≤ (l.length : Int)) = true := by simp
  have h2 : decide ((8 : Int) * (l.length : Int) ≤ (140737488355328 : Int)) = true := by simp; omega
  rw [h1, h2]
  have key := iter_big (copy_loop (0 : Int) l (by omega) l.length 0 (List.replicate l.length (0 : Int)) (Nat.zero_add _) (by simp) (by simp)) (by omega)
  simp only [Int.toNat_natCast, Bool.and_self, cond_true]
  refine (congrArg (fun z => Option.bind z _) (show iter B_toI_1 bigN _ = _ from key)).trans ?_
  simp [sub]
theorem s_toI : FTold Try.prog 114 copyIS := walkedF (fs := fs) (ss := ss_toI) (loop := loops_toI) tysOk mixed fnsOk ssOk_toI 10 114 [L64] [L64] rfl _ fun l r h => (t_toI l).trans (p_toI l r h)
def copyFG (x : FieldT) : Option FieldT := if x.2.2.2.length ≤ 2 ^ 40 then some x else none
def copyFS : FSpec := ⟨[FieldD], [FieldD], copyFG⟩
def loops_toF (_ _ _ : Nat) : Option LSpec := none
noncomputable def ss_toF : List (Nat × FSpec) := [(71, copyS)]
theorem ssOk_toF : FTolds Try.prog ss_toF := ⟨s_toL, trivial⟩
noncomputable def Γ_toF : Ctx := ctxOf Try.prog tys fs ss_toF loops_toF
noncomputable def d_toF (w1 : Int) (h1 : Int) (o1 : Bool) (v1 : LS) : Option ((Int × (Int × (Bool × (List (Fl .f32)))))) := Option.bind (copyG (sub v1 0 (List.length v1))) fun (r0 : (List (Fl .f32))) => (some ((w1, (h1, (o1, sub r0 0 (List.length r0))))))
theorem t_toF (w1 : Int) (h1 : Int) (o1 : Bool) (v1 : LS) : (fnT Γ_toF 10 113 [FieldD] [FieldD] (w1, h1, o1, v1)).den = d_toF w1 h1 o1 v1 := by kernel_rfl
theorem p_toF (w1 : Int) (h1 : Int) (o1 : Bool) (v1 : LS) (r : (Int × (Int × (Bool × (List (Fl .f32)))))) (h : copyFG (w1, h1, o1, v1) = some r) : d_toF w1 h1 o1 v1 = some r := by
  obtain ⟨hb, rfl⟩ := if_some (show (if List.length v1 ≤ 2 ^ 40 then some (w1, h1, o1, v1) else none) = some r from h)
  have k : copyG v1 = some v1 := if_pos hb
  unfold d_toF
  simp only [sub_all, k, Option.bind_some]
theorem s_toF : FTold Try.prog 113 copyFS := walkedF (fs := fs) (ss := ss_toF) (loop := loops_toF) tysOk mixed fnsOk ssOk_toF 10 113 [FieldD] [FieldD] rfl _ fun (w1, h1, o1, v1) r h => (t_toF w1 h1 o1 v1).trans (p_toF w1 h1 o1 v1 r h)
def copyMG (x : MeltT) : Option MeltT := if x.2.2.2.1.length ≤ 2 ^ 40 ∧ x.2.2.2.2.2.2.2.1.length ≤ 2 ^ 40 then some x else none
def copyMS : FSpec := ⟨[MeltD], [MeltD], copyMG⟩
def loops_toM (_ _ _ : Nat) : Option LSpec := none
noncomputable def ss_toM : List (Nat × FSpec) := [(113, copyFS)]
theorem ssOk_toM : FTolds Try.prog ss_toM := ⟨s_toF, trivial⟩
noncomputable def Γ_toM : Ctx := ctxOf Try.prog tys fs ss_toM loops_toM
noncomputable def d_toM (w1 : Int) (h1 : Int) (o1 : Bool) (v1 : LS) (w2 : Int) (h2 : Int) (o2 : Bool) (v2 : LS) (a1 : Fl .f32) (a2 : Fl .f32) (a3 : Fl .f32) (a4 : Fl .f32) (a5 : Fl .f32) (fo : Int) : Option ((Int × (Int × (Bool × ((List (Fl .f32)) × (Int × (Int × (Bool × ((List (Fl .f32)) × ((Fl .f32) × ((Fl .f32) × ((Fl .f32) × ((Fl .f32) × ((Fl .f32) × Int)))))))))))))) := Option.bind (copyFG (w1, h1, o1, sub v1 0 (List.length v1))) fun (r0 : (Int × (Int × (Bool × (List (Fl .f32)))))) => (Option.bind (copyFG (w2, h2, o2, sub v2 0 (List.length v2))) fun (r1 : (Int × (Int × (Bool × (List (Fl .f32)))))) => (some ((r0.1, (r0.2.1, (r0.2.2.1, (sub r0.2.2.2 0 (List.length r0.2.2.2), (r1.1, (r1.2.1, (r1.2.2.1, (sub r1.2.2.2 0 (List.length r1.2.2.2), (a1, (a2, (a3, (a4, (a5, fo))))))))))))))))
theorem t_toM (w1 : Int) (h1 : Int) (o1 : Bool) (v1 : LS) (w2 : Int) (h2 : Int) (o2 : Bool) (v2 : LS) (a1 : Fl .f32) (a2 : Fl .f32) (a3 : Fl .f32) (a4 : Fl .f32) (a5 : Fl .f32) (fo : Int) : (fnT Γ_toM 10 48 [MeltD] [MeltD] (w1, h1, o1, v1, w2, h2, o2, v2, a1, a2, a3, a4, a5, fo)).den = d_toM w1 h1 o1 v1 w2 h2 o2 v2 a1 a2 a3 a4 a5 fo := by kernel_rfl
theorem p_toM (w1 : Int) (h1 : Int) (o1 : Bool) (v1 : LS) (w2 : Int) (h2 : Int) (o2 : Bool) (v2 : LS) (a1 : Fl .f32) (a2 : Fl .f32) (a3 : Fl .f32) (a4 : Fl .f32) (a5 : Fl .f32) (fo : Int) (r : (Int × (Int × (Bool × ((List (Fl .f32)) × (Int × (Int × (Bool × ((List (Fl .f32)) × ((Fl .f32) × ((Fl .f32) × ((Fl .f32) × ((Fl .f32) × ((Fl .f32) × Int)))))))))))))) (h : copyMG (w1, h1, o1, v1, w2, h2, o2, v2, a1, a2, a3, a4, a5, fo) = some r) : d_toM w1 h1 o1 v1 w2 h2 o2 v2 a1 a2 a3 a4 a5 fo = some r := by
  obtain ⟨⟨p1, p2⟩, rfl⟩ := if_some (show (if List.length v1 ≤ 2 ^ 40 ∧ List.length v2 ≤ 2 ^ 40 then some (w1, h1, o1, v1, w2, h2, o2, v2, a1, a2, a3, a4, a5, fo) else none) = some r from h)
  have k1 : copyFG (w1, h1, o1, v1) = some (w1, h1, o1, v1) := if_pos p1
  have k2 : copyFG (w2, h2, o2, v2) = some (w2, h2, o2, v2) := if_pos p2
  unfold d_toM
  simp only [sub_all, k1, k2, Option.bind_some]
theorem s_toM : FTold Try.prog 48 copyMS := walkedF (fs := fs) (ss := ss_toM) (loop := loops_toM) tysOk mixed fnsOk ssOk_toM 10 48 [MeltD] [MeltD] rfl _ fun (w1, h1, o1, v1, w2, h2, o2, v2, a1, a2, a3, a4, a5, fo) r h => (t_toM w1 h1 o1 v1 w2 h2 o2 v2 a1 a2 a3 a4 a5 fo).trans (p_toM w1 h1 o1 v1 w2 h2 o2 v2 a1 a2 a3 a4 a5 fo r h)
def copyGG (x : GrT) : Option GrT := if x.2.2.length ≤ 2 ^ 40 then some x else none
def copyGS : FSpec := ⟨[GrD], [GrD], copyGG⟩
def loops_toG (_ _ _ : Nat) : Option LSpec := none
noncomputable def ss_toG : List (Nat × FSpec) := [(114, copyIS)]
theorem ssOk_toG : FTolds Try.prog ss_toG := ⟨s_toI, trivial⟩
noncomputable def Γ_toG : Ctx := ctxOf Try.prog tys fs ss_toG loops_toG
noncomputable def d_toG (gw : Int) (gh : Int) (gl : LI) : Option ((Int × (Int × (List Int)))) := Option.bind (copyIG (sub gl 0 (List.length gl))) fun (r0 : (List Int)) => (some ((gw, (gh, sub r0 0 (List.length r0)))))
theorem t_toG (gw : Int) (gh : Int) (gl : LI) : (fnT Γ_toG 10 49 [GrD] [GrD] (gw, gh, gl)).den = d_toG gw gh gl := by kernel_rfl
theorem p_toG (gw : Int) (gh : Int) (gl : LI) (r : (Int × (Int × (List Int)))) (h : copyGG (gw, gh, gl) = some r) : d_toG gw gh gl = some r := by
  obtain ⟨hb, rfl⟩ := if_some (show (if List.length gl ≤ 2 ^ 40 then some (gw, gh, gl) else none) = some r from h)
  have k : copyIG gl = some gl := if_pos hb
  unfold d_toG
  simp only [sub_all, k, Option.bind_some]
theorem s_toG : FTold Try.prog 49 copyGS := walkedF (fs := fs) (ss := ss_toG) (loop := loops_toG) tysOk mixed fnsOk ssOk_toG 10 49 [GrD] [GrD] rfl _ fun (gw, gh, gl) r h => (t_toG gw gh gl).trans (p_toG gw gh gl r h)
def copyKG (x : FlT) : Option FlT := if x.2.length ≤ 2 ^ 40 then some x else none
def copyKS : FSpec := ⟨[FlD], [FlD], copyKG⟩
def loops_toK (_ _ _ : Nat) : Option LSpec := none
noncomputable def ss_toK : List (Nat × FSpec) := [(71, copyS)]
theorem ssOk_toK : FTolds Try.prog ss_toK := ⟨s_toL, trivial⟩
noncomputable def Γ_toK : Ctx := ctxOf Try.prog tys fs ss_toK loops_toK
noncomputable def d_toK (sd : Int) (sv : LS) : Option ((Int × (List (Fl .f32)))) := Option.bind (copyG (sub sv 0 (List.length sv))) fun (r0 : (List (Fl .f32))) => (some ((sd, sub r0 0 (List.length r0))))
theorem t_toK (sd : Int) (sv : LS) : (fnT Γ_toK 10 22 [FlD] [FlD] (sd, sv)).den = d_toK sd sv := by kernel_rfl
theorem p_toK (sd : Int) (sv : LS) (r : (Int × (List (Fl .f32)))) (h : copyKG (sd, sv) = some r) : d_toK sd sv = some r := by
  obtain ⟨hb, rfl⟩ := if_some (show (if List.length sv ≤ 2 ^ 40 then some (sd, sv) else none) = some r from h)
  have k : copyG sv = some sv := if_pos hb
  unfold d_toK
  simp only [sub_all, k, Option.bind_some]
theorem s_toK : FTold Try.prog 22 copyKS := walkedF (fs := fs) (ss := ss_toK) (loop := loops_toK) tysOk mixed fnsOk ssOk_toK 10 22 [FlD] [FlD] rfl _ fun (sd, sv) r h => (t_toK sd sv).trans (p_toK sd sv r h)
def copyDG (x : DeskT) : Option DeskT := if lensB x (2 ^ 40) then some x else none
def copyDS : FSpec := ⟨[DeskD], [DeskD], copyDG⟩
def loops_toD (_ _ _ : Nat) : Option LSpec := none
noncomputable def ss_toD : List (Nat × FSpec) := [(48, copyMS), (49, copyGS), (22, copyKS)]
theorem ssOk_toD : FTolds Try.prog ss_toD := ⟨s_toM, s_toG, s_toK, trivial⟩
noncomputable def Γ_toD : Ctx := ctxOf Try.prog tys fs ss_toD loops_toD
noncomputable def d_toD (w1 : Int) (h1 : Int) (o1 : Bool) (v1 : LS) (w2 : Int) (h2 : Int) (o2 : Bool) (v2 : LS) (a1 : Fl .f32) (a2 : Fl .f32) (a3 : Fl .f32) (a4 : Fl .f32) (a5 : Fl .f32) (fo : Int) (gw : Int) (gh : Int) (gl : LI) (sd : Int) (sv : LS) (se : Int) : Option ((Int × (Int × (Bool × ((List (Fl .f32)) × (Int × (Int × (Bool × ((List (Fl .f32)) × ((Fl .f32) × ((Fl .f32) × ((Fl .f32) × ((Fl .f32) × ((Fl .f32) × (Int × (Int × (Int × ((List Int) × (Int × ((List (Fl .f32)) × Int)))))))))))))))))))) := Option.bind (copyMG (w1, h1, o1, sub v1 0 (List.length v1), w2, h2, o2, sub v2 0 (List.length v2), a1, a2, a3, a4, a5, fo)) fun (r0 : (Int × (Int × (Bool × ((List (Fl .f32)) × (Int × (Int × (Bool × ((List (Fl .f32)) × ((Fl .f32) × ((Fl .f32) × ((Fl .f32) × ((Fl .f32) × ((Fl .f32) × Int)))))))))))))) => (Option.bind (copyGG (gw, gh, sub gl 0 (List.length gl))) fun (r1 : (Int × (Int × (List Int)))) => (Option.bind (copyKG (sd, sub sv 0 (List.length sv))) fun (r2 : (Int × (List (Fl .f32)))) => (some ((r0.1, (r0.2.1, (r0.2.2.1, (sub r0.2.2.2.1 0 (List.length r0.2.2.2.1), (r0.2.2.2.2.1, (r0.2.2.2.2.2.1, (r0.2.2.2.2.2.2.1, (sub r0.2.2.2.2.2.2.2.1 0 (List.length r0.2.2.2.2.2.2.2.1), (r0.2.2.2.2.2.2.2.2.1, (r0.2.2.2.2.2.2.2.2.2.1, (r0.2.2.2.2.2.2.2.2.2.2.1, (r0.2.2.2.2.2.2.2.2.2.2.2.1, (r0.2.2.2.2.2.2.2.2.2.2.2.2.1, (r0.2.2.2.2.2.2.2.2.2.2.2.2.2, (r1.1, (r1.2.1, (sub r1.2.2 0 (List.length r1.2.2), (r2.1, (sub r2.2 0 (List.length r2.2), se)))))))))))))))))))))))
theorem t_toD (w1 : Int) (h1 : Int) (o1 : Bool) (v1 : LS) (w2 : Int) (h2 : Int) (o2 : Bool) (v2 : LS) (a1 : Fl .f32) (a2 : Fl .f32) (a3 : Fl .f32) (a4 : Fl .f32) (a5 : Fl .f32) (fo : Int) (gw : Int) (gh : Int) (gl : LI) (sd : Int) (sv : LS) (se : Int) : (fnT Γ_toD 10 11 [DeskD] [DeskD] (w1, h1, o1, v1, w2, h2, o2, v2, a1, a2, a3, a4, a5, fo, gw, gh, gl, sd, sv, se)).den = d_toD w1 h1 o1 v1 w2 h2 o2 v2 a1 a2 a3 a4 a5 fo gw gh gl sd sv se := by kernel_rfl
theorem p_toD (w1 : Int) (h1 : Int) (o1 : Bool) (v1 : LS) (w2 : Int) (h2 : Int) (o2 : Bool) (v2 : LS) (a1 : Fl .f32) (a2 : Fl .f32) (a3 : Fl .f32) (a4 : Fl .f32) (a5 : Fl .f32) (fo : Int) (gw : Int) (gh : Int) (gl : LI) (sd : Int) (sv : LS) (se : Int) (r : (Int × (Int × (Bool × ((List (Fl .f32)) × (Int × (Int × (Bool × ((List (Fl .f32)) × ((Fl .f32) × ((Fl .f32) × ((Fl .f32) × ((Fl .f32) × ((Fl .f32) × (Int × (Int × (Int × ((List Int) × (Int × ((List (Fl .f32)) × Int)))))))))))))))))))) (h : copyDG (w1, h1, o1, v1, w2, h2, o2, v2, a1, a2, a3, a4, a5, fo, gw, gh, gl, sd, sv, se) = some r) : d_toD w1 h1 o1 v1 w2 h2 o2 v2 a1 a2 a3 a4 a5 fo gw gh gl sd sv se = some r := by
  obtain ⟨⟨p1, p2, p3, p4⟩, rfl⟩ := if_some (show (if lensB (w1, h1, o1, v1, w2, h2, o2, v2, a1, a2, a3, a4, a5, fo, gw, gh, gl, sd, sv, se) (2 ^ 40) then some (w1, h1, o1, v1, w2, h2, o2, v2, a1, a2, a3, a4, a5, fo, gw, gh, gl, sd, sv, se) else none) = some r from h)
  have k1 : copyMG (w1, h1, o1, v1, w2, h2, o2, v2, a1, a2, a3, a4, a5, fo) = some (w1, h1, o1, v1, w2, h2, o2, v2, a1, a2, a3, a4, a5, fo) := if_pos ⟨p1, p2⟩
  have k2 : copyGG (gw, gh, gl) = some (gw, gh, gl) := if_pos p3
  have k3 : copyKG (sd, sv) = some (sd, sv) := if_pos p4
  unfold d_toD
  simp only [sub_all, k1, k2, k3, Option.bind_some]
theorem s_toD : FTold Try.prog 11 copyDS := walkedF (fs := fs) (ss := ss_toD) (loop := loops_toD) tysOk mixed fnsOk ssOk_toD 10 11 [DeskD] [DeskD] rfl _ fun (w1, h1, o1, v1, w2, h2, o2, v2, a1, a2, a3, a4, a5, fo, gw, gh, gl, sd, sv, se) r h => (t_toD w1 h1 o1 v1 w2 h2 o2 v2 a1 a2 a3 a4 a5 fo gw gh gl sd sv se).trans (p_toD w1 h1 o1 v1 w2 h2 o2 v2 a1 a2 a3 a4 a5 fo gw gh gl sd sv se r h)
def selfIG (x : LI × LI) : Option Bool := if x.1 = x.2 ∧ x.1.length < 2 ^ 62 then some true else none
def selfIS : FSpec := ⟨[L64, L64], [.bool], selfIG⟩
def L_eqI_1 : LSpec := ⟨[0, 1, 5], ⟨Shs.at 26 [(0, (.slc 2)), (1, (.slc 3)), (5, (.int IntKind.i64))], [(2, (.arr false (EK.int IntKind.i64))), (3, (.arr false (EK.int IntKind.i64)))]⟩, [⟨.ret, [4], ⟨Shs.at 26 [(4, .bool)], [(2, (.arr false (EK.int IntKind.i64))), (3, (.arr false (EK.int IntKind.i64)))]⟩⟩, ⟨.ext 0, [], ⟨Shs.at 26 [], [(2, (.arr false (EK.int IntKind.i64))), (3, (.arr false (EK.int IntKind.i64)))]⟩⟩], fun _ => bigN⟩
def loops_eqI (f k n : Nat) : Option LSpec := bif (Nat.beq f 29 && Nat.beq k 4 && Nat.beq n 1) then some L_eqI_1 else none
abbrev S_eqI_1 : Type := ((Nat × (Nat × (Int × Unit))) × ((List Int) × ((List Int) × Unit)))
abbrev R_eqI_1 : Type := (((Bool × Unit) × ((List Int) × ((List Int) × Unit))) ⊕ (Unit × ((List Int) × ((List Int) × Unit))))
noncomputable def B_eqI_1 (y : S_eqI_1) : Option (S_eqI_1 ⊕ R_eqI_1) := bif decide (y.1.2.2.1 < (y.1.1 : Int)) then (bif inB y.1.2.2.1 y.1.1 then (bif inB y.1.2.2.1 y.1.2.1 then (bif List.getD y.2.1 (0 + Int.toNat y.1.2.2.1) (0 : Int) != List.getD y.2.2.1 (0 + Int.toNat y.1.2.2.1) (0 : Int) then (some (Sum.inr (Sum.inl (((false, ()), (y.2.1, (y.2.2.1, ()))))))) else (some (Sum.inl (((y.1.1, (y.1.2.1, (IntKind.i64.wrap (y.1.2.2.1 + 1), ()))), (y.2.1, (y.2.2.1, ()))))))) else (none)) else (none)) else (some (Sum.inr (Sum.inr (((), (y.2.1, (y.2.2.1, ())))))))
noncomputable def ss_eqI : List (Nat × FSpec) := []
theorem ssOk_eqI : FTolds Try.prog ss_eqI := trivial
noncomputable def Γ_eqI : Ctx := ctxOf Try.prog tys fs ss_eqI loops_eqI
noncomputable def d_eqI (l m : LI) : Option (Bool) := bif ((List.length l : Nat) : Int) != ((List.length m : Nat) : Int) then (some (false)) else (Option.bind (iter B_eqI_1 bigN (((List.length l, (List.length m, (0, ()))), (l, (m, ()))))) fun (r0 : (((Bool × Unit) × ((List Int) × ((List Int) × Unit))) ⊕ (Unit × ((List Int) × ((List Int) × Unit))))) => (match r0 with | .inl x1 => (some (x1.1.1)) | .inr x1 => (some (true))))
theorem t_eqI (l m : LI) : (fnT Γ_eqI 10 29 [L64, L64] [.bool] (l, m)).den = d_eqI l m := by kernel_rfl
theorem p_eqI (l m : LI) (r : Bool) (h : selfIG (l, m) = some r) : d_eqI l m = some r := by
  obtain ⟨⟨rfl, hb⟩, rfl⟩ := if_some (show (if l = m ∧ List.length l < 2 ^ 62 then some true else none) = some r from h)
  unfold d_eqI
  have key := iter_for (B := B_eqI_1) (fun i => ((l.length, (l.length, ((i : Int), ()))), (l, (l, ())))) 0 l.length (.inr ((), (l, (l, ())))) (Nat.zero_le _) hb (fun i _ hi => by
    unfold B_eqI_1
    simp only [ltT hi, inB_of hi, inc64 hi hb, cond_true, Int.toNat_natCast, Nat.zero_add, eq_bne, cond_false]) (by
    unfold B_eqI_1
    simp only [ltF, cond_false])
  have h0 : ((l.length : Int) != (l.length : Int)) = false := by simp
  rw [h0, cond_false]
  exact congrArg (fun z => Option.bind z _) key
theorem s_eqI : FTold Try.prog 29 selfIS := walkedF (fs := fs) (ss := ss_eqI) (loop := loops_eqI) tysOk mixed fnsOk ssOk_eqI 10 29 [L64, L64] [.bool] rfl _ fun (l, m) r h => (t_eqI l m).trans (p_eqI l m r h)
def selfFdG (x : FieldT × FieldT) : Option Bool := if x.1 = x.2 ∧ x.1.2.2.2.length < 2 ^ 62 then some true else none
def selfFdS : FSpec := ⟨[FieldD, FieldD], [.bool], selfFdG⟩
theorem selfFdG_some {x y : FieldT} {r : Bool} (h : selfFdG (x, y) = some r) : x = y ∧ (x.2.2.2.length < 2 ^ 62) ∧ r = true := by
  unfold selfFdG at h
  split at h
  · rename_i hc; cases h; exact ⟨hc.1, hc.2, rfl⟩
  · cases h
def loops_eqF (_ _ _ : Nat) : Option LSpec := none
noncomputable def ss_eqF : List (Nat × FSpec) := [(77, selfLS)]
theorem ssOk_eqF : FTolds Try.prog ss_eqF := ⟨s_eqL, trivial⟩
noncomputable def Γ_eqF : Ctx := ctxOf Try.prog tys fs ss_eqF loops_eqF
noncomputable def d_eqF (w1 : Int) (h1 : Int) (o1 : Bool) (v1 : LS) (w1q : Int) (h1q : Int) (o1q : Bool) (v1q : LS) : Option (Bool) := bif w1 != w1q then (some (false)) else (bif h1 != h1q then (some (false)) else (bif !o1 == o1q then (some (false)) else (Option.bind (selfLG (sub v1 0 (List.length v1), sub v1q 0 (List.length v1q))) fun (r0 : Bool) => (bif !r0 then (some (false)) else (some (true))))))
theorem t_eqF (w1 : Int) (h1 : Int) (o1 : Bool) (v1 : LS) (w1q : Int) (h1q : Int) (o1q : Bool) (v1q : LS) : (fnT Γ_eqF 10 117 [FieldD, FieldD] [.bool] ((w1, h1, o1, v1), (w1q, h1q, o1q, v1q))).den = d_eqF w1 h1 o1 v1 w1q h1q o1q v1q := by kernel_rfl
theorem p_eqF (w1 : Int) (h1 : Int) (o1 : Bool) (v1 : LS) (w1q : Int) (h1q : Int) (o1q : Bool) (v1q : LS) (r : Bool) (h : selfFdG ((w1, h1, o1, v1), (w1q, h1q, o1q, v1q)) = some r) : d_eqF w1 h1 o1 v1 w1q h1q o1q v1q = some r := by
  obtain ⟨e, p1, rfl⟩ := selfFdG_some h
  cases e
  have k1 : selfLG (v1, v1) = some true := if_pos ⟨rfl, p1⟩
  unfold d_eqF
  simp only [sub_all, k1, eq_bne, eq_not_self, Option.bind_some, Bool.not_true, cond_false]
theorem s_eqF : FTold Try.prog 117 selfFdS := walkedF (fs := fs) (ss := ss_eqF) (loop := loops_eqF) tysOk mixed fnsOk ssOk_eqF 10 117 [FieldD, FieldD] [.bool] rfl _ fun ((w1, h1, o1, v1), (w1q, h1q, o1q, v1q)) r h => (t_eqF w1 h1 o1 v1 w1q h1q o1q v1q).trans (p_eqF w1 h1 o1 v1 w1q h1q o1q v1q r h)
open Classical in
noncomputable def selfMG (x : MeltT × MeltT) : Option Bool := if x.1 = x.2 ∧ x.1.2.2.2.1.length < 2 ^ 62 ∧ x.1.2.2.2.2.2.2.2.1.length < 2 ^ 62 then some true else none
noncomputable def selfMS : FSpec := ⟨[MeltD, MeltD], [.bool], selfMG⟩
theorem selfMG_some {x y : MeltT} {r : Bool} (h : selfMG (x, y) = some r) : x = y ∧ (x.2.2.2.1.length < 2 ^ 62 ∧ x.2.2.2.2.2.2.2.1.length < 2 ^ 62) ∧ r = true := by
  unfold selfMG at h
  split at h
  · rename_i hc; cases h; exact ⟨hc.1, hc.2, rfl⟩
  · cases h
def loops_eqM (_ _ _ : Nat) : Option LSpec := none
noncomputable def ss_eqM : List (Nat × FSpec) := [(117, selfFdS), (118, selfFS)]
theorem ssOk_eqM : FTolds Try.prog ss_eqM := ⟨s_eqF, s_sameFloat, trivial⟩
noncomputable def Γ_eqM : Ctx := ctxOf Try.prog tys fs ss_eqM loops_eqM
noncomputable def d_eqM (w1 : Int) (h1 : Int) (o1 : Bool) (v1 : LS) (w2 : Int) (h2 : Int) (o2 : Bool) (v2 : LS) (a1 : Fl .f32) (a2 : Fl .f32) (a3 : Fl .f32) (a4 : Fl .f32) (a5 : Fl .f32) (fo : Int) (w1q : Int) (h1q : Int) (o1q : Bool) (v1q : LS) (w2q : Int) (h2q : Int) (o2q : Bool) (v2q : LS) (a1q : Fl .f32) (a2q : Fl .f32) (a3q : Fl .f32) (a4q : Fl .f32) (a5q : Fl .f32) (foq : Int) : Option (Bool) := Option.bind (selfFdG ((w1, h1, o1, sub v1 0 (List.length v1)), w1q, h1q, o1q, sub v1q 0 (List.length v1q))) fun (r0 : Bool) => (bif !r0 then (some (false)) else (Option.bind (selfFdG ((w2, h2, o2, sub v2 0 (List.length v2)), w2q, h2q, o2q, sub v2q 0 (List.length v2q))) fun (r1 : Bool) => (bif !r1 then (some (false)) else (Option.bind (selfFG (fwide a1, fwide a1q)) fun (r2 : Bool) => (bif !r2 then (some (false)) else (Option.bind (selfFG (fwide a2, fwide a2q)) fun (r3 : Bool) => (bif !r3 then (some (false)) else (Option.bind (selfFG (fwide a3, fwide a3q)) fun (r4 : Bool) => (bif !r4 then (some (false)) else (Option.bind (selfFG (fwide a4, fwide a4q)) fun (r5 : Bool) => (bif !r5 then (some (false)) else (Option.bind (selfFG (fwide a5, fwide a5q)) fun (r6 : Bool) => (bif !r6 then (some (false)) else (bif fo != foq then (some (false)) else (some (true))))))))))))))))
theorem t_eqM (w1 : Int) (h1 : Int) (o1 : Bool) (v1 : LS) (w2 : Int) (h2 : Int) (o2 : Bool) (v2 : LS) (a1 : Fl .f32) (a2 : Fl .f32) (a3 : Fl .f32) (a4 : Fl .f32) (a5 : Fl .f32) (fo : Int) (w1q : Int) (h1q : Int) (o1q : Bool) (v1q : LS) (w2q : Int) (h2q : Int) (o2q : Bool) (v2q : LS) (a1q : Fl .f32) (a2q : Fl .f32) (a3q : Fl .f32) (a4q : Fl .f32) (a5q : Fl .f32) (foq : Int) : (fnT Γ_eqM 10 53 [MeltD, MeltD] [.bool] ((w1, h1, o1, v1, w2, h2, o2, v2, a1, a2, a3, a4, a5, fo), (w1q, h1q, o1q, v1q, w2q, h2q, o2q, v2q, a1q, a2q, a3q, a4q, a5q, foq))).den = d_eqM w1 h1 o1 v1 w2 h2 o2 v2 a1 a2 a3 a4 a5 fo w1q h1q o1q v1q w2q h2q o2q v2q a1q a2q a3q a4q a5q foq := by kernel_rfl
theorem p_eqM (w1 : Int) (h1 : Int) (o1 : Bool) (v1 : LS) (w2 : Int) (h2 : Int) (o2 : Bool) (v2 : LS) (a1 : Fl .f32) (a2 : Fl .f32) (a3 : Fl .f32) (a4 : Fl .f32) (a5 : Fl .f32) (fo : Int) (w1q : Int) (h1q : Int) (o1q : Bool) (v1q : LS) (w2q : Int) (h2q : Int) (o2q : Bool) (v2q : LS) (a1q : Fl .f32) (a2q : Fl .f32) (a3q : Fl .f32) (a4q : Fl .f32) (a5q : Fl .f32) (foq : Int) (r : Bool) (h : selfMG ((w1, h1, o1, v1, w2, h2, o2, v2, a1, a2, a3, a4, a5, fo), (w1q, h1q, o1q, v1q, w2q, h2q, o2q, v2q, a1q, a2q, a3q, a4q, a5q, foq)) = some r) : d_eqM w1 h1 o1 v1 w2 h2 o2 v2 a1 a2 a3 a4 a5 fo w1q h1q o1q v1q w2q h2q o2q v2q a1q a2q a3q a4q a5q foq = some r := by
  obtain ⟨e, ⟨p1, p2⟩, rfl⟩ := selfMG_some h
  cases e
  have k1 : selfFdG ((w1, h1, o1, v1), w1, h1, o1, v1) = some true := if_pos ⟨rfl, p1⟩
  have k2 : selfFdG ((w2, h2, o2, v2), w2, h2, o2, v2) = some true := if_pos ⟨rfl, p2⟩
  have k3 : ∀ z, selfFG (z, z) = some true := fun z => if_pos rfl
  unfold d_eqM
  simp only [sub_all, k1, k2, k3, eq_bne, eq_not_self, Option.bind_some, Bool.not_true, cond_false]
theorem s_eqM : FTold Try.prog 53 selfMS := walkedF (fs := fs) (ss := ss_eqM) (loop := loops_eqM) tysOk mixed fnsOk ssOk_eqM 10 53 [MeltD, MeltD] [.bool] rfl _ fun ((w1, h1, o1, v1, w2, h2, o2, v2, a1, a2, a3, a4, a5, fo), (w1q, h1q, o1q, v1q, w2q, h2q, o2q, v2q, a1q, a2q, a3q, a4q, a5q, foq)) r h => (t_eqM w1 h1 o1 v1 w2 h2 o2 v2 a1 a2 a3 a4 a5 fo w1q h1q o1q v1q w2q h2q o2q v2q a1q a2q a3q a4q a5q foq).trans (p_eqM w1 h1 o1 v1 w2 h2 o2 v2 a1 a2 a3 a4 a5 fo w1q h1q o1q v1q w2q h2q o2q v2q a1q a2q a3q a4q a5q foq r h)
def selfGG (x : GrT × GrT) : Option Bool := if x.1 = x.2 ∧ x.1.2.2.length < 2 ^ 62 then some true else none
def selfGS : FSpec := ⟨[GrD, GrD], [.bool], selfGG⟩
theorem selfGG_some {x y : GrT} {r : Bool} (h : selfGG (x, y) = some r) : x = y ∧ (x.2.2.length < 2 ^ 62) ∧ r = true := by
  unfold selfGG at h
  split at h
  · rename_i hc; cases h; exact ⟨hc.1, hc.2, rfl⟩
  · cases h
def loops_eqGr (_ _ _ : Nat) : Option LSpec := none
noncomputable def ss_eqGr : List (Nat × FSpec) := [(29, selfIS)]
theorem ssOk_eqGr : FTolds Try.prog ss_eqGr := ⟨s_eqI, trivial⟩
noncomputable def Γ_eqGr : Ctx := ctxOf Try.prog tys fs ss_eqGr loops_eqGr
noncomputable def d_eqGr (gw : Int) (gh : Int) (gl : LI) (gwq : Int) (ghq : Int) (glq : LI) : Option (Bool) := bif gw != gwq then (some (false)) else (bif gh != ghq then (some (false)) else (Option.bind (selfIG (sub gl 0 (List.length gl), sub glq 0 (List.length glq))) fun (r0 : Bool) => (bif !r0 then (some (false)) else (some (true)))))
theorem t_eqGr (gw : Int) (gh : Int) (gl : LI) (gwq : Int) (ghq : Int) (glq : LI) : (fnT Γ_eqGr 10 54 [GrD, GrD] [.bool] ((gw, gh, gl), (gwq, ghq, glq))).den = d_eqGr gw gh gl gwq ghq glq := by kernel_rfl
theorem p_eqGr (gw : Int) (gh : Int) (gl : LI) (gwq : Int) (ghq : Int) (glq : LI) (r : Bool) (h : selfGG ((gw, gh, gl), (gwq, ghq, glq)) = some r) : d_eqGr gw gh gl gwq ghq glq = some r := by
  obtain ⟨e, p1, rfl⟩ := selfGG_some h
  cases e
  have k1 : selfIG (gl, gl) = some true := if_pos ⟨rfl, p1⟩
  unfold d_eqGr
  simp only [sub_all, k1, eq_bne, Option.bind_some, Bool.not_true, cond_false]
theorem s_eqGr : FTold Try.prog 54 selfGS := walkedF (fs := fs) (ss := ss_eqGr) (loop := loops_eqGr) tysOk mixed fnsOk ssOk_eqGr 10 54 [GrD, GrD] [.bool] rfl _ fun ((gw, gh, gl), (gwq, ghq, glq)) r h => (t_eqGr gw gh gl gwq ghq glq).trans (p_eqGr gw gh gl gwq ghq glq r h)
def selfKG (x : FlT × FlT) : Option Bool := if x.1 = x.2 ∧ x.1.2.length < 2 ^ 62 then some true else none
def selfKS : FSpec := ⟨[FlD, FlD], [.bool], selfKG⟩
theorem selfKG_some {x y : FlT} {r : Bool} (h : selfKG (x, y) = some r) : x = y ∧ (x.2.length < 2 ^ 62) ∧ r = true := by
  unfold selfKG at h
  split at h
  · rename_i hc; cases h; exact ⟨hc.1, hc.2, rfl⟩
  · cases h
def loops_eqK (_ _ _ : Nat) : Option LSpec := none
noncomputable def ss_eqK : List (Nat × FSpec) := [(77, selfLS)]
theorem ssOk_eqK : FTolds Try.prog ss_eqK := ⟨s_eqL, trivial⟩
noncomputable def Γ_eqK : Ctx := ctxOf Try.prog tys fs ss_eqK loops_eqK
noncomputable def d_eqK (sd : Int) (sv : LS) (sdq : Int) (svq : LS) : Option (Bool) := bif sd != sdq then (some (false)) else (Option.bind (selfLG (sub sv 0 (List.length sv), sub svq 0 (List.length svq))) fun (r0 : Bool) => (bif !r0 then (some (false)) else (some (true))))
theorem t_eqK (sd : Int) (sv : LS) (sdq : Int) (svq : LS) : (fnT Γ_eqK 10 24 [FlD, FlD] [.bool] ((sd, sv), (sdq, svq))).den = d_eqK sd sv sdq svq := by kernel_rfl
theorem p_eqK (sd : Int) (sv : LS) (sdq : Int) (svq : LS) (r : Bool) (h : selfKG ((sd, sv), (sdq, svq)) = some r) : d_eqK sd sv sdq svq = some r := by
  obtain ⟨e, p1, rfl⟩ := selfKG_some h
  cases e
  have k1 : selfLG (sv, sv) = some true := if_pos ⟨rfl, p1⟩
  unfold d_eqK
  simp only [sub_all, k1, eq_bne, Option.bind_some, Bool.not_true, cond_false]
theorem s_eqK : FTold Try.prog 24 selfKS := walkedF (fs := fs) (ss := ss_eqK) (loop := loops_eqK) tysOk mixed fnsOk ssOk_eqK 10 24 [FlD, FlD] [.bool] rfl _ fun ((sd, sv), (sdq, svq)) r h => (t_eqK sd sv sdq svq).trans (p_eqK sd sv sdq svq r h)
open Classical in
noncomputable def selfDG (x : DeskT × DeskT) : Option Bool := if x.1 = x.2 ∧ lensB x.1 (2 ^ 40) then some true else none
noncomputable def selfDS : FSpec := ⟨[DeskD, DeskD], [.bool], selfDG⟩
theorem selfDG_some {x y : DeskT} {r : Bool} (h : selfDG (x, y) = some r) : x = y ∧ (lensB x (2 ^ 40)) ∧ r = true := by
  unfold selfDG at h
  split at h
  · rename_i hc; cases h; exact ⟨hc.1, hc.2, rfl⟩
  · cases h
def loops_eqD (_ _ _ : Nat) : Option LSpec := none
noncomputable def ss_eqD : List (Nat × FSpec) := [(53, selfMS), (54, selfGS), (24, selfKS)]
theorem ssOk_eqD : FTolds Try.prog ss_eqD := ⟨s_eqM, s_eqGr, s_eqK, trivial⟩
noncomputable def Γ_eqD : Ctx := ctxOf Try.prog tys fs ss_eqD loops_eqD
noncomputable def d_eqD (w1 : Int) (h1 : Int) (o1 : Bool) (v1 : LS) (w2 : Int) (h2 : Int) (o2 : Bool) (v2 : LS) (a1 : Fl .f32) (a2 : Fl .f32) (a3 : Fl .f32) (a4 : Fl .f32) (a5 : Fl .f32) (fo : Int) (gw : Int) (gh : Int) (gl : LI) (sd : Int) (sv : LS) (se : Int) (w1q : Int) (h1q : Int) (o1q : Bool) (v1q : LS) (w2q : Int) (h2q : Int) (o2q : Bool) (v2q : LS) (a1q : Fl .f32) (a2q : Fl .f32) (a3q : Fl .f32) (a4q : Fl .f32) (a5q : Fl .f32) (foq : Int) (gwq : Int) (ghq : Int) (glq : LI) (sdq : Int) (svq : LS) (seq : Int) : Option (Bool) := Option.bind (selfMG ((w1, h1, o1, sub v1 0 (List.length v1), w2, h2, o2, sub v2 0 (List.length v2), a1, a2, a3, a4, a5, fo), w1q, h1q, o1q, sub v1q 0 (List.length v1q), w2q, h2q, o2q, sub v2q 0 (List.length v2q), a1q, a2q, a3q, a4q, a5q, foq)) fun (r0 : Bool) => (bif !r0 then (some (false)) else (Option.bind (selfGG ((gw, gh, sub gl 0 (List.length gl)), gwq, ghq, sub glq 0 (List.length glq))) fun (r1 : Bool) => (bif !r1 then (some (false)) else (Option.bind (selfKG ((sd, sub sv 0 (List.length sv)), sdq, sub svq 0 (List.length svq))) fun (r2 : Bool) => (bif !r2 then (some (false)) else (bif se != seq then (some (false)) else (some (true))))))))
theorem t_eqD (w1 : Int) (h1 : Int) (o1 : Bool) (v1 : LS) (w2 : Int) (h2 : Int) (o2 : Bool) (v2 : LS) (a1 : Fl .f32) (a2 : Fl .f32) (a3 : Fl .f32) (a4 : Fl .f32) (a5 : Fl .f32) (fo : Int) (gw : Int) (gh : Int) (gl : LI) (sd : Int) (sv : LS) (se : Int) (w1q : Int) (h1q : Int) (o1q : Bool) (v1q : LS) (w2q : Int) (h2q : Int) (o2q : Bool) (v2q : LS) (a1q : Fl .f32) (a2q : Fl .f32) (a3q : Fl .f32) (a4q : Fl .f32) (a5q : Fl .f32) (foq : Int) (gwq : Int) (ghq : Int) (glq : LI) (sdq : Int) (svq : LS) (seq : Int) : (fnT Γ_eqD 10 13 [DeskD, DeskD] [.bool] ((w1, h1, o1, v1, w2, h2, o2, v2, a1, a2, a3, a4, a5, fo, gw, gh, gl, sd, sv, se), (w1q, h1q, o1q, v1q, w2q, h2q, o2q, v2q, a1q, a2q, a3q, a4q, a5q, foq, gwq, ghq, glq, sdq, svq, seq))).den = d_eqD w1 h1 o1 v1 w2 h2 o2 v2 a1 a2 a3 a4 a5 fo gw gh gl sd sv se w1q h1q o1q v1q w2q h2q o2q v2q a1q a2q a3q a4q a5q foq gwq ghq glq sdq svq seq := by kernel_rfl
theorem p_eqD (w1 : Int) (h1 : Int) (o1 : Bool) (v1 : LS) (w2 : Int) (h2 : Int) (o2 : Bool) (v2 : LS) (a1 : Fl .f32) (a2 : Fl .f32) (a3 : Fl .f32) (a4 : Fl .f32) (a5 : Fl .f32) (fo : Int) (gw : Int) (gh : Int) (gl : LI) (sd : Int) (sv : LS) (se : Int) (w1q : Int) (h1q : Int) (o1q : Bool) (v1q : LS) (w2q : Int) (h2q : Int) (o2q : Bool) (v2q : LS) (a1q : Fl .f32) (a2q : Fl .f32) (a3q : Fl .f32) (a4q : Fl .f32) (a5q : Fl .f32) (foq : Int) (gwq : Int) (ghq : Int) (glq : LI) (sdq : Int) (svq : LS) (seq : Int) (r : Bool) (h : selfDG ((w1, h1, o1, v1, w2, h2, o2, v2, a1, a2, a3, a4, a5, fo, gw, gh, gl, sd, sv, se), (w1q, h1q, o1q, v1q, w2q, h2q, o2q, v2q, a1q, a2q, a3q, a4q, a5q, foq, gwq, ghq, glq, sdq, svq, seq)) = some r) : d_eqD w1 h1 o1 v1 w2 h2 o2 v2 a1 a2 a3 a4 a5 fo gw gh gl sd sv se w1q h1q o1q v1q w2q h2q o2q v2q a1q a2q a3q a4q a5q foq gwq ghq glq sdq svq seq = some r := by
  obtain ⟨e, ⟨p1, p2, p3, p4⟩, rfl⟩ := selfDG_some h
  cases e
  have q1 : v1.length ≤ 2 ^ 40 := p1
  have q2 : v2.length ≤ 2 ^ 40 := p2
  have q3 : gl.length ≤ 2 ^ 40 := p3
  have q4 : sv.length ≤ 2 ^ 40 := p4
  have k1 : selfMG ((w1, h1, o1, v1, w2, h2, o2, v2, a1, a2, a3, a4, a5, fo), (w1, h1, o1, v1, w2, h2, o2, v2, a1, a2, a3, a4, a5, fo)) = some true := if_pos ⟨rfl, show v1.length < 2 ^ 62 by omega, show v2.length < 2 ^ 62 by omega⟩
  have k2 : selfGG ((gw, gh, gl), (gw, gh, gl)) = some true := if_pos ⟨rfl, show gl.length < 2 ^ 62 by omega⟩
  have k3 : selfKG ((sd, sv), (sd, sv)) = some true := if_pos ⟨rfl, show sv.length < 2 ^ 62 by omega⟩
  unfold d_eqD
  simp only [sub_all, k1, k2, k3, eq_bne, Option.bind_some, Bool.not_true, cond_false]
theorem s_eqD : FTold Try.prog 13 selfDS := walkedF (fs := fs) (ss := ss_eqD) (loop := loops_eqD) tysOk mixed fnsOk ssOk_eqD 10 13 [DeskD, DeskD] [.bool] rfl _ fun ((w1, h1, o1, v1, w2, h2, o2, v2, a1, a2, a3, a4, a5, fo, gw, gh, gl, sd, sv, se), (w1q, h1q, o1q, v1q, w2q, h2q, o2q, v2q, a1q, a2q, a3q, a4q, a5q, foq, gwq, ghq, glq, sdq, svq, seq)) r h => (t_eqD w1 h1 o1 v1 w2 h2 o2 v2 a1 a2 a3 a4 a5 fo gw gh gl sd sv se w1q h1q o1q v1q w2q h2q o2q v2q a1q a2q a3q a4q a5q foq gwq ghq glq sdq svq seq).trans (p_eqD w1 h1 o1 v1 w2 h2 o2 v2 a1 a2 a3 a4 a5 fo gw gh gl sd sv se w1q h1q o1q v1q w2q h2q o2q v2q a1q a2q a3q a4q a5q foq gwq ghq glq sdq svq seq r h)
end Go.Proofs.Ytffbjjngapejbaa
