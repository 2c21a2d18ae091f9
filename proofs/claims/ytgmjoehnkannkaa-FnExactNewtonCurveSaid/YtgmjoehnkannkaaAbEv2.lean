/-
  The evaluator: code, loops, calls. Definitions alone.
-/
import Derived.Test.YtgmjoehnkannkaaAbEv
namespace Go.Ab

/-! ### Names put in order -/
mutual
def AV.names : AV → List Nat
  | .ptr n _ _ => [n]
  | .slc n _ _ => [n]
  | .fn _ a b => AV.namesL a ++ AV.namesL b
  | .agg l => AV.namesL l
  | .tup l => AV.namesL l
  | _ => []
def AV.namesL : List AV → List Nat
  | [] => []
  | v :: r => v.names ++ AV.namesL r
end

mutual
def AV.ren (ρ : Nat → Nat) : AV → AV
  | .ptr n i c => .ptr (ρ n) i c
  | .slc n o l => .slc (ρ n) o l
  | .fn f a b => .fn f (AV.renL ρ a) (AV.renL ρ b)
  | .agg l => .agg (AV.renL ρ l)
  | .tup l => .tup (AV.renL ρ l)
  | .bl b => .bs b
  | v => v
def AV.renL (ρ : Nat → Nat) : List AV → List AV
  | [] => []
  | v :: r => v.ren ρ :: AV.renL ρ r
end

def Blk.ren (ρ : Nat → Nat) : Blk → Blk
  | .vals o l => .vals o (AV.renL ρ l)
  | b => b

def reach (h : Heap) : (fuel : Nat) → List Nat → List Nat → List Nat
  | 0, _, seen => seen
  | _ + 1, [], seen => seen
  | n + 1, x :: w, seen => bif seen.any (Nat.beq x) then reach h n w seen else
    match hget h x with
    | some (.vals _ l) => reach h n (w ++ AV.namesL l) (seen ++ [x])
    | some _ => reach h n w (seen ++ [x])
    | none => reach h n w seen

def posOf (x : Nat) : List Nat → Nat → Nat
  | [], j => j
  | y :: r, j => bif Nat.beq x y then j else posOf x r (j + 1)

/-- Keep some slots; name what they reach anew, but for the names 'pre'. -/
def normTm (keep : List Nat) (s : St) : List AV := s.tm.mapIdx fun i v => bif keep.any (Nat.beq i) then v else AV.top
def normAll (pre keep : List Nat) (s : St) : List Nat := reach s.hp 200 (AV.namesL (normTm keep s)) pre
def normOwn (pre all : List Nat) : List Nat := all.filter fun x => !pre.any (Nat.beq x)
def normRen (pre own : List Nat) (lb : Nat) (x : Nat) : Nat := bif pre.any (Nat.beq x) then x else lb + posOf x own 0
def inN (l : List Nat) (x : Nat) : Bool := l.any (Nat.beq x)

def normOk (pre : List Nat) (lb : Nat) (keep all own : List Nat) (s : St) : Bool :=
  (pre.all fun x => Nat.blt x lb || Nat.ble (lb + own.length) x) &&
  (AV.namesL (normTm keep s)).all (inN all) &&
  (all.all fun x => match hget s.hp x with | some (.vals _ l) => (AV.namesL l).all (inN all) | _ => true) &&
  pre.all (inN all)

def normTo (pre : List Nat) (lb : Nat) (keep all own : List Nat) (s : St) : St :=
  ⟨AV.renL (normRen pre own lb) (normTm keep s), all.filterMap fun x => (hget s.hp x).map fun b => (normRen pre own lb x, b.ren (normRen pre own lb))⟩

def normO (pre : List Nat) (lb : Nat) (keep : List Nat) (s : St) : Option St :=
  let all := normAll pre keep s
  let own := normOwn pre all
  bif normOk pre lb keep all own s then some (normTo pre lb keep all own s) else none

def normSt (pre : List Nat) (lb : Nat) (keep : List Nat) (s : St) : St :=
  let all := normAll pre keep s
  normTo pre lb keep all (normOwn pre all) s

/-- the first region of a loop's body: its name -/
def keyOf : Code → Option Nat
  | .region id _ _ => some id
  | .seq a b => (keyOf a).orElse fun _ => keyOf b
  | .block _ b | .scope b | .loop b => keyOf b
  | .cond _ a b => (keyOf a).orElse fun _ => keyOf b
  | _ => none

def iter {α ρ : Type} (B : α → Option (α ⊕ ρ)) : Nat → α → Option ρ
  | 0, _ => none
  | n + 1, x => (B x).bind fun
    | .inl y => iter B n y
    | .inr r => some r

def exGet (pre : List Nat) (lb : Nat) : (l : List LExit) → Ex → St → Option (ExDen l)
  | [], _, _ => none
  | [e], x, s => if x = e.ex then (normO pre lb e.keep s).bind e.sh.get else none
  | e :: f :: r, x, s => match (if x = e.ex then (normO pre lb e.keep s).bind e.sh.get else none) with
    | some y => some (.inl y)
    | none => (exGet pre lb (f :: r) x s).map .inr

def roundT (pre : List Nat) (lb : Nat) (L : LSpec) (body : St → T (Ex × St)) (x : L.sh.den) : T (L.sh.den ⊕ ExDen L.exits) :=
  (body (L.sh.fill x)).bind fun (e, s) => match e with
    | .nrm => match (normO pre lb L.keep s).bind L.sh.get with
      | some y => .ret (.inl y)
      | none => .miss (normSt pre lb L.keep s)
    | e => match exGet pre lb L.exits e s with
      | some r => .ret (.inr r)
      | none => .miss (e, s)

def loopBase (nm key : Nat) : Nat := (nm * 1024 + 1023) * 1048576 + key * 64

def evCode (Γ : Ctx) (call : CallF) (fn nm : Nat) (pre : List Nat) : Code → St → T (Ex × St)
  | .skip, s => .ret (.nrm, s)
  | .label _, s => .ret (.nrm, s)
  | .region _ ops draw, s => (evRegion Γ call nm ops.toList draw s).bind fun s => .ret (.nrm, s)
  | .seq a b, s => (evCode Γ call fn nm pre a s).bind fun (e, s) => match e with
    | .nrm => evCode Γ call fn nm pre b s
    | e => .ret (e, s)
  | .cond c a b, s => match opv s.tm c with
    | .bl true => evCode Γ call fn nm pre a s
    | .bl false => evCode Γ call fn nm pre b s
    | .bs x => .node x (evCode Γ call fn nm pre a s) (evCode Γ call fn nm pre b s)
    | _ => .fail
  | .block id b, s => (evCode Γ call fn nm pre b s).bind fun (e, s) => match e with
    | .ext i => .ret (bif Nat.beq i id then .nrm else .ext i, s)
    | e => .ret (e, s)
  | .loop b, s => match keyOf b with
    | none => .fail
    | some key => match Γ.loop fn key nm with
      | none => .miss (fn, key, nm, pre, loopBase nm key, s)
      | some L => match (normO pre (loopBase nm key) L.keep s).bind L.sh.get with
        | none => .miss (fn, key, nm, normSt pre (loopBase nm key) L.keep s)
        | some x => .bnd (iter (fun y => (roundT pre (loopBase nm key) L (evCode Γ call fn nm pre b) y).den) (L.fuel x) x) fun r => exOut L.exits r
  | .exit id, s => .ret (.ext id, s)
  | .ret, s => .ret (.ret, s)
  | _, _ => .fail

/-- A function's results. -/
def resA (Γ : Ctx) (tm : List AV) (h : Heap) : List ResultVar → T (List AV)
  | [] => .ret []
  | .tmp t :: r => (resA Γ tm h r).bind fun l => .ret (tm.getD t .top :: l)
  | .cell a t :: r => (loadA Γ h t (tm.getD a .top)).bind fun v => (resA Γ tm h r).bind fun l => .ret (v :: l)

def evBody (Γ : Ctx) (call : CallF) (f : Nat) (args : List AV) (h : Heap) (nm : Nat) : T (AV × Heap) :=
  match Γ.fns f with
  | none => .fail
  | some fn => match fn.body with
    | none => .fail
    | some c => (evCode Γ call f nm (h.map (·.1)) c ⟨args ++ List.replicate (fn.ntmps - args.length) .top, h⟩).bind fun (e, s) => match e with
      | .ext _ => .fail
      | _ => (resA Γ s.tm s.hp fn.results.toList).bind fun l => .ret (match l with | [v] => v | vs => .tup vs, s.hp)

def evCall (Γ : Ctx) : (depth : Nat) → CallF
  | 0 => fun _ _ _ _ => .fail
  | d + 1 => fun f args h nm => match Γ.spec f with
    | some s => (useSpec s args h nm).bind (addNew h)
    | none => evBody Γ (evCall Γ d) f args h nm

/-! ### A function as a plain function of data -/
def DS.arg (nm : Nat) : (d : DS) → d.den → Nat → AV × Heap × Nat
  | .bool, b, j => (.bs b, [], j)
  | .int k, n, j => (.int k n, [], j)
  | .flt k, x, j => (.flt k x, [], j)
  | .cpx k, x, j => (.cpx k x.1 x.2, [], j)
  | .str, s, j => (.str s, [], j)
  | .list κ, l, j => (.slc (nm + j) 0 l.length, [(nm + j, .arr false κ l)], j + 1)
  | _, _, j => (.top, [], j)

def DS.argCells (nm : Nat) : (d : List DS) → DS.dens d → Nat → List AV × Heap × Nat
  | [], _, j => ([], [], j)
  | [d], x, j => let (v, h, j') := d.arg nm x j; ([v], h, j')
  | d :: e :: r, x, j =>
    let (v, h, j') := d.arg nm x.1 j
    let (vs, h', j'') := DS.argCells nm (e :: r) x.2 j'
    (v :: vs, h ++ h', j'')

def DS.argTop (nm : Nat) : (d : DS) → d.den → Nat → AV × Heap × Nat
  | .agg l, x, j => let (vs, h, j') := DS.argCells nm l x j; (.agg vs, h, j')
  | .ptr (.agg l), x, j => let (vs, h, j') := DS.argCells nm l x (j + 1); (.ptr (nm + j) 0 0, (nm + j, .vals false vs) :: h, j')
  | .bool, b, j => DS.arg nm .bool b j
  | .int k, n, j => DS.arg nm (.int k) n j
  | .flt k, x, j => DS.arg nm (.flt k) x j
  | .cpx k, x, j => DS.arg nm (.cpx k) x j
  | .str, s, j => DS.arg nm .str s j
  | .list κ, l, j => DS.arg nm (.list κ) l j
  | _, _, j => (.top, [], j)

def DS.argAll (nm : Nat) : (d : List DS) → DS.dens d → Nat → List AV × Heap × Nat
  | [], _, j => ([], [], j)
  | [d], x, j => let (v, h, j') := d.argTop nm x j; ([v], h, j')
  | d :: e :: r, x, j =>
    let (v, h, j') := d.argTop nm x.1 j
    let (vs, h', j'') := DS.argAll nm (e :: r) x.2 j'
    (v :: vs, h ++ h', j'')

/-- the names of a result's slices; none where one is not the function's own -/
def ownOf (h : Heap) : List AV → Option (List Nat)
  | [] => some []
  | .slc n _ _ :: r => match hget h n with
    | some (.arr true _ _) => (ownOf h r).map (n :: ·)
    | _ => none
  | .top :: _ => none
  | .ptr _ _ _ :: _ => none
  | .fn _ _ _ :: _ => none
  | .agg _ :: _ => none
  | .tup _ :: _ => none
  | .arv _ _ :: _ => none
  | _ :: r => ownOf h r

def flatRes : List AV → List AV
  | [] => []
  | .agg l :: r => l ++ flatRes r
  | v :: r => v :: flatRes r

def nodupB : List Nat → Bool
  | [] => true
  | x :: r => !r.any (Nat.beq x) && nodupB r

def resOut (res : List DS) (r : AV × Heap) : T (DS.dens res) :=
  let vs := match res, r.1 with | [_], v => [v] | _, .tup l => l | _, v => [v]
  match ownOf r.2 (flatRes vs) with
  | some ns => bif nodupB ns then T.opt (DS.reads r.2 res vs) else .fail
  | none => .fail

/-- What function f does, as a tree. -/
def fnT (Γ : Ctx) (d f : Nat) (args res : List DS) (x : DS.dens args) : T (DS.dens res) :=
  let a := DS.argAll 2 args x 0
  (evBody Γ (evCall Γ d) f a.1 a.2.1 1).bind (resOut res)

def fnF (Γ : Ctx) (d f : Nat) (args res : List DS) : FSpec := ⟨args, res, fun x => (fnT Γ d f args res x).den⟩

end Go.Ab
