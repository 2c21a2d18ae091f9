/-
  The evaluator: what operations, code and calls do to abstract values. Definitions alone.
-/
import Derived.Test.YtgmjoehnkannkaaAbDef
namespace Go.Ab

structure St where
  tm : List AV
  hp : Heap
  deriving Inhabited

inductive Ex where
  | nrm | ext (id : Nat) | ret
  deriving DecidableEq, Inhabited

/-! ### Shapes of states -/
mutual
inductive Sh where
  | top | bool | int (k : IntKind) | flt (k : FloatKind) | cpx (k : FloatKind) | str | nilp | ptr (n i c : Nat) | slc (n : Nat) | arv (κ : EK) | fn (f : Fn) (a b : Shs) | agg (l : Shs)
inductive Shs where
  | nil
  | cons (s : Sh) (r : Shs)
end

instance : Inhabited Sh := ⟨.top⟩
instance : Inhabited Shs := ⟨.nil⟩

def Shs.of : List Sh → Shs
  | [] => .nil
  | s :: r => .cons s (Shs.of r)

/-- 'n' slots, of which some are known -/
def Shs.at (n : Nat) (l : List (Nat × Sh)) : Shs := Shs.of ((List.range n).map fun i => ((l.find? fun p => Nat.beq p.1 i).map (·.2)).getD .top)

mutual
@[reducible] def Sh.den : Sh → Type
  | .top | .nilp | .ptr _ _ _ => Unit
  | .bool => Bool
  | .int _ => Int
  | .flt k => Fl k
  | .cpx k => Fl k × Fl k
  | .str => ByteArray
  | .slc _ => Nat
  | .arv κ => List κ.den
  | .fn _ a b => a.den × b.den
  | .agg l => l.den
@[reducible] def Shs.den : Shs → Type
  | .nil => Unit
  | .cons .top r => r.den
  | .cons .nilp r => r.den
  | .cons (.ptr _ _ _) r => r.den
  | .cons s r => s.den × r.den
end

mutual
def Sh.fill : (s : Sh) → s.den → AV
  | .top, _ => .top
  | .nilp, _ => .nilp
  | .ptr n i c, _ => .ptr n i c
  | .bool, b => .bs b
  | .int k, n => .int k n
  | .flt k, x => .flt k x
  | .cpx k, x => .cpx k x.1 x.2
  | .str, s => .str s
  | .slc n, m => .slc n 0 m
  | .arv κ, l => .arv κ l
  | .fn f a b, x => .fn f (a.fill x.1) (b.fill x.2)
  | .agg l, x => .agg (l.fill x)
def Shs.fill : (s : Shs) → s.den → List AV
  | .nil, _ => []
  | .cons .top r, x => .top :: r.fill x
  | .cons .nilp r, x => .nilp :: r.fill x
  | .cons (.ptr n i c) r, x => .ptr n i c :: r.fill x
  | .cons .bool r, x => Sh.bool.fill x.1 :: r.fill x.2
  | .cons (.int k) r, x => (Sh.int k).fill x.1 :: r.fill x.2
  | .cons (.flt k) r, x => (Sh.flt k).fill x.1 :: r.fill x.2
  | .cons (.cpx k) r, x => (Sh.cpx k).fill x.1 :: r.fill x.2
  | .cons .str r, x => Sh.str.fill x.1 :: r.fill x.2
  | .cons (.slc n) r, x => (Sh.slc n).fill x.1 :: r.fill x.2
  | .cons (.arv κ) r, x => (Sh.arv κ).fill x.1 :: r.fill x.2
  | .cons (.fn f a b) r, x => (Sh.fn f a b).fill x.1 :: r.fill x.2
  | .cons (.agg l) r, x => (Sh.agg l).fill x.1 :: r.fill x.2
end

deriving instance DecidableEq for Fn

mutual
def Sh.get : (s : Sh) → AV → Option s.den
  | .top, _ => some ()
  | .nilp, .nilp => some ()
  | .ptr n i c, .ptr n' i' c' => bif Nat.beq n n' && Nat.beq i i' && Nat.beq c c' then some () else none
  | .bool, .bs b => some b
  | .int k, .int k' n => if k' = k then some n else none
  | .flt k, .flt k' x => if e : k' = k then some (e ▸ x) else none
  | .cpx k, .cpx k' x y => if e : k' = k then some (e ▸ x, e ▸ y) else none
  | .str, .str s => some s
  | .slc n, .slc n' off m => bif Nat.beq n n' && Nat.beq off 0 then some m else none
  | .arv κ, .arv κ' l => if e : κ' = κ then some (e ▸ l) else none
  | .fn f a b, .fn f' a' b' => if f' = f then (match a.get a', b.get b' with | some x, some y => some (x, y) | _, _ => none) else none
  | .agg l, .agg l' => l.get l'
  | _, _ => none
def Shs.get : (s : Shs) → List AV → Option s.den
  | .nil, [] => some ()
  | .cons .top r, _ :: l => r.get l
  | .cons .nilp r, v :: l => match Sh.nilp.get v, r.get l with | some _, some y => some y | _, _ => none
  | .cons (.ptr n i c) r, v :: l => match (Sh.ptr n i c).get v, r.get l with | some _, some y => some y | _, _ => none
  | .cons .bool r, v :: l => match Sh.bool.get v, r.get l with | some x, some y => some (x, y) | _, _ => none
  | .cons (.int k) r, v :: l => match (Sh.int k).get v, r.get l with | some x, some y => some (x, y) | _, _ => none
  | .cons (.flt k) r, v :: l => match (Sh.flt k).get v, r.get l with | some x, some y => some (x, y) | _, _ => none
  | .cons (.cpx k) r, v :: l => match (Sh.cpx k).get v, r.get l with | some x, some y => some (x, y) | _, _ => none
  | .cons .str r, v :: l => match Sh.str.get v, r.get l with | some x, some y => some (x, y) | _, _ => none
  | .cons (.slc n) r, v :: l => match (Sh.slc n).get v, r.get l with | some x, some y => some (x, y) | _, _ => none
  | .cons (.arv κ) r, v :: l => match (Sh.arv κ).get v, r.get l with | some x, some y => some (x, y) | _, _ => none
  | .cons (.fn f a b) r, v :: l => match (Sh.fn f a b).get v, r.get l with | some x, some y => some (x, y) | _, _ => none
  | .cons (.agg s) r, v :: l => match (Sh.agg s).get v, r.get l with | some x, some y => some (x, y) | _, _ => none
  | _, _ => none
end

inductive BSh where
  | vals (own : Bool) (l : Shs)
  | arr (own : Bool) (κ : EK)

@[reducible] def BSh.den : BSh → Type
  | .vals _ l => l.den
  | .arr _ κ => List κ.den
def BSh.fill : (s : BSh) → s.den → Blk
  | .vals o l, x => .vals o (l.fill x)
  | .arr o κ, x => .arr o κ x
def BSh.get : (s : BSh) → Blk → Option s.den
  | .vals o l, .vals o' l' => bif o == o' then l.get l' else none
  | .arr o κ, .arr o' κ' l => if e : κ' = κ then (bif o == o' then some (e ▸ l) else none) else none
  | _, _ => none

@[reducible] def HSh.den : List (Nat × BSh) → Type
  | [] => Unit
  | p :: r => p.2.den × HSh.den r
def HSh.fill : (s : List (Nat × BSh)) → HSh.den s → Heap
  | [], _ => []
  | p :: r, x => (p.1, p.2.fill x.1) :: HSh.fill r x.2
def HSh.get : (s : List (Nat × BSh)) → Heap → Option (HSh.den s)
  | [], [] => some ()
  | p :: r, (n, b) :: h => bif Nat.beq p.1 n then (match p.2.get b, HSh.get r h with | some x, some y => some (x, y) | _, _ => none) else none
  | _, _ => none

structure SSh where
  tm : Shs
  hp : List (Nat × BSh)

@[reducible] def SSh.den (s : SSh) : Type := s.tm.den × HSh.den s.hp
def SSh.fill (s : SSh) (x : s.den) : St := ⟨s.tm.fill x.1, HSh.fill s.hp x.2⟩
def SSh.get (s : SSh) (t : St) : Option s.den :=
  match s.tm.get t.tm, HSh.get s.hp t.hp with
  | some x, some y => some (x, y)
  | _, _ => none

/-- A loop: what is kept of a state at its head, its form there; how it is left, what is kept then; how many rounds there are at most. -/
structure LExit where
  ex : Ex
  keep : List Nat
  sh : SSh
structure LSpec where
  keep : List Nat
  sh : SSh
  exits : List LExit
  fuel : sh.den → Nat

@[reducible] def ExDen : List LExit → Type
  | [] => Empty
  | [e] => e.sh.den
  | e :: f :: r => e.sh.den ⊕ ExDen (f :: r)

def exOut : (l : List LExit) → ExDen l → T (Ex × St)
  | [], _ => .fail
  | [e], x => .ret (e.ex, e.sh.fill x)
  | e :: f :: r, x => .cas x (fun y => .ret (e.ex, e.sh.fill y)) (fun y => exOut (f :: r) y)

structure Ctx where
  ty : Nat → Option TyI
  fns : Nat → Option Func
  spec : Nat → Option FSpec
  loop : (fn key nm : Nat) → Option LSpec

/-! ### Small things -/
def ofConst0 : Value → AV
  | .bool b => .bl b
  | .int k n => .int k n
  | .float k b => .flt k (Fl.of k b)
  | .complex k a b => .cpx k (Fl.of k a) (Fl.of k b)
  | .string s => .str s
  | .pointer none => .nilp
  | .slice none 0 0 => .nils none
  | _ => .top
def ofConst : Value → AV
  | .agg cs => .agg (cs.toList.map ofConst0)
  | v => ofConst0 v

def opv (tm : List AV) : Operand → AV
  | .tmp t => tm.getD t .top
  | .const v => ofConst v
  | .func f => .fn (.func f) [] []
  | .global _ => .top

def strEq (s t : ByteArray) : Bool := s.toList == t.toList
def sget (s : ByteArray) (i : Nat) : Int := ((s.data.getD i 0).toNat : Int)
def ibits (op : BinOp) (k : IntKind) (x y : Int) : Int :=
  let a := BitVec.ofInt k.bits x
  let b := BitVec.ofInt k.bits y
  match op with
  | .and => k.wrap (a &&& b).toNat
  | .or => k.wrap (a ||| b).toNat
  | .xor => k.wrap (a ^^^ b).toNat
  | _ => k.wrap (a &&& ~~~b).toNat
def shN (k : IntKind) (y : Int) : Nat := min y.toNat k.bits

def isZeroConst : Operand → Option Bool
  | .const (.int _ n) => some (n == 0)
  | _ => none

def binInt (op : BinOp) (k : IntKind) (x y : Int) (yo : Operand) : T AV :=
  match op with
  | .add => .ret (.int k (k.wrap (x + y)))
  | .sub => .ret (.int k (k.wrap (x - y)))
  | .mul => .ret (.int k (k.wrap (x * y)))
  | .quo => match isZeroConst yo with
    | some true => .fail
    | some false => .ret (.int k (k.wrap (x.tdiv y)))
    | none => .ifb (y != 0) (.ret (.int k (k.wrap (x.tdiv y))))
  | .rem => match isZeroConst yo with
    | some true => .fail
    | some false => .ret (.int k (x.tmod y))
    | none => .ifb (y != 0) (.ret (.int k (x.tmod y)))
  | .and | .or | .xor | .andNot => .ret (.int k (ibits op k x y))
  | .eql => .ret (.bs (x == y))
  | .neq => .ret (.bs (x != y))
  | .lss => .ret (.bs (decide (x < y)))
  | .leq => .ret (.bs (decide (x ≤ y)))
  | .gtr => .ret (.bs (decide (x > y)))
  | .geq => .ret (.bs (decide (x ≥ y)))
  | _ => .fail

def binFlt (op : BinOp) (k : FloatKind) (x y : Fl k) : T AV :=
  match op with
  | .add => .ret (.flt k (fadd x y))
  | .sub => .ret (.flt k (fsub x y))
  | .mul => .ret (.flt k (fmul x y))
  | .quo => .ret (.flt k (fdiv x y))
  | .eql => .ret (.bs (feq x y))
  | .neq => .ret (.bs (fne x y))
  | .lss => .ret (.bs (Go.Ab.flt x y))
  | .leq => .ret (.bs (fle x y))
  | .gtr => .ret (.bs (fgt x y))
  | .geq => .ret (.bs (fge x y))
  | _ => .fail

def isBoolTy (Γ : Ctx) (t : Nat) : Bool := match Γ.ty t with | some ⟨.bool, _, _, _, _⟩ => true | _ => false

def binOpA (Γ : Ctx) (op : BinOp) (xt : Nat) (a b : AV) (yo : Operand) : T AV :=
  match op, a, b with
  | .shl, .int k x, .int _ y => .ifb (decide (0 ≤ y)) (.ret (.int k (k.wrap (x * 2 ^ shN k y))))
  | .shr, .int k x, .int _ y => .ifb (decide (0 ≤ y)) (.ret (.int k (x.fdiv (2 ^ shN k y))))
  | op, .int k x, .int k' y => if k = k' then binInt op k x y yo else .fail
  | op, .flt k x, .flt k' y => if e : k' = k then binFlt op k x (e ▸ y) else .fail
  | .add, .cpx k x y, .cpx k' z u => if e : k' = k then .ret (.cpx k (fadd x (e ▸ z)) (fadd y (e ▸ u))) else .fail
  | .sub, .cpx k x y, .cpx k' z u => if e : k' = k then .ret (.cpx k (fsub x (e ▸ z)) (fsub y (e ▸ u))) else .fail
  | .eql, .cpx k x y, .cpx k' z u => if e : k' = k then .ret (.bs (feq x (e ▸ z) && feq y (e ▸ u))) else .fail
  | .neq, .cpx k x y, .cpx k' z u => if e : k' = k then .ret (.bs !(feq x (e ▸ z) && feq y (e ▸ u))) else .fail
  | .add, .str s, .str t => .ifb (decide (s.size + t.size ≤ 9223372036854775807)) (.ret (.str (s ++ t)))
  | .eql, .str s, .str t => .ret (.bs (strEq s t))
  | .neq, .str s, .str t => .ret (.bs !(strEq s t))
  | .eql, .bs x, .bs y => if isBoolTy Γ xt then .ret (.bs (x == y)) else .fail
  | .eql, .bs x, .bl y => if isBoolTy Γ xt then .ret (.bs (x == y)) else .fail
  | .eql, .bl x, .bs y => if isBoolTy Γ xt then .ret (.bs (x == y)) else .fail
  | .eql, .bl x, .bl y => if isBoolTy Γ xt then .ret (.bl (x == y)) else .fail
  | .neq, .bs x, .bs y => if isBoolTy Γ xt then .ret (.bs (!(x == y))) else .fail
  | .neq, .bs x, .bl y => if isBoolTy Γ xt then .ret (.bs (!(x == y))) else .fail
  | .neq, .bl x, .bs y => if isBoolTy Γ xt then .ret (.bs (!(x == y))) else .fail
  | .neq, .bl x, .bl y => if isBoolTy Γ xt then .ret (.bl (!(x == y))) else .fail
  | _, _, _ => .fail

def unOpA (op : UnOp) (a : AV) : T AV :=
  match op, a with
  | .neg, .int k n => .ret (.int k (k.wrap (0 - n)))
  | .neg, .flt k x => .ret (.flt k (fneg x))
  | .neg, .cpx k x y => .ret (.cpx k (fneg x) (fneg y))
  | .not, .bs b => .ret (.bs !b)
  | .not, .bl b => .ret (.bl !b)
  | _, _ => .fail

/-- a list of a block's cells, by elements -/
def chunks (κ : EK) : (n : Nat) → List AV → Option (List κ.den)
  | 0, [] => some []
  | 0, _ => none
  | n + 1, l => match κ.of (l.take κ.size), chunks κ n (l.drop κ.size) with
    | some x, some r => some (x :: r)
    | _, _ => none

/-- cells of a new variable: nil slices get a name, and a block of nothing -/
def phant (nm : Nat) : Nat → List AV → List AV × Heap
  | _, [] => ([], [])
  | j, .nils (some κ) :: r => let (l, h) := phant nm (j + 1) r; (.slc (nm + j) 0 0 :: l, (nm + j, .arr true κ []) :: h)
  | j, v :: r => let (l, h) := phant nm j r; (v :: l, h)

/-- a value of one cell -/
def cellB : AV → Bool
  | .top | .agg _ | .arv _ _ | .tup _ => false
  | _ => true

/-- A new variable with a value. -/
def newVarA (Γ : Ctx) (nm : Nat) (ti : TyI) (v : AV) : T (AV × Heap) :=
  match v with
  | .arv κ l => .ifb (decide (0 < l.length)) (.ret (.ptr nm 0 0, [(nm, .arr true κ l)]))
  | .agg cs => match ti.d with
    | .arr n e => match (Γ.ty e).bind (·.ek) with
      | some κ => match chunks κ n cs with
        | some l => if n = 0 then .fail else .ret (.ptr nm 0 0, [(nm, .arr true κ l)])
        | none => .fail
      | none => .fail
    | _ => let (l, h) := phant (nm * 1024 + 900) 0 cs; if cs.length = 0 then .fail else .ret (.ptr nm 0 0, (nm, .vals true l) :: h)
  | .top => .fail
  | .tup _ => .fail
  | v => if ti.isAgg then .fail else let (l, h) := phant (nm * 1024 + 900) 0 [v]; .ret (.ptr nm 0 0, (nm, .vals true l) :: h)

def loadA (Γ : Ctx) (h : Heap) (t : Nat) (p : AV) : T AV :=
  match Γ.ty t, p with
  | some ti, .ptr n i c => match hget h n with
    | some (.vals _ l) => if ti.isAgg then (if c = 0 ∧ i + ti.size ≤ l.length then .ret (.agg ((l.drop i).take ti.size)) else .fail)
        else if c = 0 then T.opt l[i]? else .fail
    | some (.arr _ κ l) =>
      if ti.isAgg then
        if c = 0 ∧ ti.size = κ.size ∧ κ.size ≠ 1 then .ret (.agg (κ.cells (l.getD i κ.dflt)))
        else match ti.d with
          | .arr m _ => if c = 0 ∧ i = 0 then .ifb (decide (l.length = m) && (m * κ.size == ti.size)) (.ret (.arv κ l)) else .fail
          | _ => .fail
      else T.opt (κ.cells (l.getD i κ.dflt))[c]?
    | _ => .fail
  | _, _ => .fail

def splice (l : List AV) (i : Nat) (vs : List AV) : List AV := l.take i ++ vs ++ l.drop (i + vs.length)

def storeA (Γ : Ctx) (h : Heap) (t : Nat) (p v : AV) : T Heap :=
  match Γ.ty t, p with
  | some ti, .ptr n i c =>
    let cs : Option (List AV) := match v with
      | .agg l => if ti.isAgg = true ∧ l.length = ti.size ∧ l.all cellB = true then some l else none
      | .top | .tup _ | .arv _ _ | .nils _ => none
      | v => if ti.isAgg = true ∨ ti.size ≠ 1 then none else some [v]
    match cs, hget h n with
    | some cs, some (.vals true l) => if c = 0 ∧ i + cs.length ≤ l.length then .ret (hset h n (.vals true (splice l i cs))) else .fail
    | some cs, some (.arr true κ l) => match κ.upd (l.getD i κ.dflt) c cs with
      | some y => if c + cs.length ≤ κ.size then .ret (hset h n (.arr true κ (l.set i y))) else .fail
      | none => .fail
    | _, _ => .fail
  | _, _ => .fail

def fieldOff (Γ : Ctx) (t f : Nat) : Option (Nat × Nat) :=
  match Γ.ty t with
  | some ⟨.struct fs, _, _, _, _⟩ => fs[f]?
  | _ => none

def sizeOfA (Γ : Ctx) (t : Nat) : Nat := match Γ.ty t with | some ti => ti.size | none => 0

def fieldAddrA (Γ : Ctx) (h : Heap) (t : Nat) (p : AV) (f : Nat) : T AV :=
  match fieldOff Γ t f, p with
  | some (ft, off), .ptr n i c => if sizeOfA Γ ft = 0 then .fail else match hget h n with
    | some (.vals _ l) => if i + off < l.length then .ret (.ptr n (i + off) c) else .fail
    | some (.arr _ κ _) => if c + off < κ.size then .ret (.ptr n i (c + off)) else .fail
    | _ => .fail
  | _, _ => .fail

def fieldA (Γ : Ctx) (t : Nat) (x : AV) (f : Nat) : T AV :=
  match fieldOff Γ t f, x with
  | some (ft, off), .agg l => match Γ.ty ft with
    | some ti => if ti.isAgg then (if off + ti.size ≤ l.length then .ret (.agg ((l.drop off).take ti.size)) else .fail) else T.opt l[off]?
    | none => .fail
  | _, _ => .fail

def inB (i : Int) (n : Nat) : Bool := decide (0 ≤ i) && decide (i < (n : Int))

def indexAddrA (Γ : Ctx) (h : Heap) (t : Nat) (x ix : AV) : T AV :=
  match Γ.ty t, x, ix with
  | some ⟨.slc e, _, _, _, _⟩, .slc n off len, .int _ i => match hget h n with
    | some (.arr _ κ _) => if sizeOfA Γ e = κ.size then .ifb (inB i len) (.ret (.ptr n (off + i.toNat) 0)) else .fail
    | _ => .fail
  | some ⟨.arr m e, _, _, _, _⟩, .ptr n 0 0, .int _ i => match hget h n with
    | some (.arr _ κ l) => if sizeOfA Γ e = κ.size then .ifb (inB i l.length && decide (l.length = m)) (.ret (.ptr n i.toNat 0)) else .fail
    | _ => .fail
  | _, _, _ => .fail

def indexA (Γ : Ctx) (t : Nat) (x ix : AV) : T AV :=
  match Γ.ty t, x, ix with
  | some ⟨.str, _, _, _, _⟩, .str s, .int _ i => .ifb (inB i s.size) (.ret (.int .u8 (sget s i.toNat)))
  | some ⟨.arr m e, _, _, _, _⟩, .arv κ l, .int _ i => match Γ.ty e with
    | some te => if te.size = κ.size then .ifb (inB i l.length && decide (l.length = m)) (if te.isAgg = true then .ret (.agg (κ.cells (l.getD i.toNat κ.dflt))) else if κ.size = 1 then .ret (κ.val (l.getD i.toNat κ.dflt)) else .fail) else .fail
    | none => .fail
  | _, _, _ => .fail

def fwide (x : Fl .f32) : Fl .f64 := (fconv .f32 .f64 x).getD (Fl.nan .f64)

def bytesOf (l : List Int) : ByteArray := ⟨(l.map fun n => UInt8.ofNat n.toNat).toArray⟩

def convertA (Γ : Ctx) (h : Heap) (src dst : Nat) (x : AV) : T AV :=
  match Γ.ty src, Γ.ty dst with
  | some ts, some td => match td.d, x with
    | .int k, .int _ n => .ret (.int k (k.wrap n))
    | .flt k, .int _ n => .ret (.flt k (fofInt k n))
    | .int k, .flt _ y => .bnd (ftoInt y k) fun n => .ret (.int k n)
    | .flt .f64, .flt .f32 y => .ret (.flt .f64 (fwide y))
    | .flt .f32, .flt .f32 y => .ret (.flt .f32 y)
    | .flt .f64, .flt .f64 y => .ret (.flt .f64 y)
    | .flt .f32, .flt .f64 y => .bnd (fconv .f64 .f32 y) fun z => .ret (.flt .f32 z)
    | .cpx .f64, .cpx .f32 y z => .ret (.cpx .f64 (fwide y) (fwide z))
    | .cpx .f32, .cpx .f32 y z => .ret (.cpx .f32 y z)
    | .cpx .f64, .cpx .f64 y z => .ret (.cpx .f64 y z)
    | .cpx .f32, .cpx .f64 y z => .bnd (fconv .f64 .f32 y) fun a => .bnd (fconv .f64 .f32 z) fun b => .ret (.cpx .f32 a b)
    | .str, .str s => .ret (.str s)
    | .str, .slc n off len => match ts.d, hget h n with
      | .slc e, some (.arr _ (.int .u8) l) => match Γ.ty e with
        | some ⟨.int .u8, _, _, _, _⟩ => .ret (.str (bytesOf (sub l off len)))
        | _ => .fail
      | _, _ => .fail
    | _, _ => .fail
  | _, _ => .fail

def mergeV (b : Bool) : AV → AV → AV
  | .bs x, .bs y => .bs (bif b then x else y)
  | .bs x, .bl y => .bs (bif b then x else y)
  | .bl x, .bs y => .bs (bif b then x else y)
  | .bl x, .bl y => .bs (bif b then x else y)
  | .int k x, .int k' y => if k' = k then .int k (bif b then x else y) else .top
  | .flt k x, .flt k' y => if e : k' = k then .flt k (bif b then x else e ▸ y) else .top
  | .cpx k x u, .cpx k' y v => if e : k' = k then .cpx k (bif b then x else e ▸ y) (bif b then u else e ▸ v) else .top
  | .str x, .str y => .str (bif b then x else y)
  | _, _ => .top

/-- parts of a literal -/
def fillA (place : Nat → Option (Nat × Nat)) (cells : List AV) : List (Nat × AV) → Option (List AV)
  | [] => some cells
  | (i, v) :: rest => match place i with
    | none => none
    | some (off, size) => match v with
      | .agg l => if l.length = size ∧ off + size ≤ cells.length then fillA place (splice cells off l) rest else none
      | .top | .tup _ | .arv _ _ => none
      | v => if size = 1 ∧ off + 1 ≤ cells.length then fillA place (splice cells off [v]) rest else none

def repl (z : List AV) : Nat → List AV
  | 0 => []
  | n + 1 => z ++ repl z n

def fldPlaces (Γ : Ctx) : List (Nat × Nat) → Option (List (Nat × Nat))
  | [] => some []
  | (t, off) :: r => match Γ.ty t, fldPlaces Γ r with
    | some ti, some l => some ((off, ti.size) :: l)
    | _, _ => none

def buildA (Γ : Ctx) (t : Nat) (parts : List (Nat × AV)) : T AV :=
  match Γ.ty t with
  | some ⟨.struct fs, _, _, z, _⟩ => match fldPlaces Γ fs with
    | some pl => match fillA (pl[·]?) z parts with
      | some l => .ret (.agg l)
      | none => .fail
    | none => .fail
  | some ⟨.arr _ e, _, _, z, _⟩ => match Γ.ty e with
    | some te => match fillA (fun i => some (i * te.size, te.size)) z parts with
      | some l => .ret (.agg l)
      | none => .fail
    | none => .fail
  | _ => .fail

def buildSliceA (Γ : Ctx) (nm t len : Nat) (parts : List (Nat × AV)) : T (AV × Heap) :=
  match Γ.ty t with
  | some ⟨.slc e, _, _, _, _⟩ => match Γ.ty e with
    | some te => match te.ek with
      | some κ => if te.size = κ.size ∧ len * te.size ≤ 1000 then
          match fillA (fun i => some (i * te.size, te.size)) (repl te.zero len) parts with
          | some cs => match chunks κ len cs with
            | some l => .ret (.slc nm 0 len, [(nm, .arr true κ l)])
            | none => .fail
          | none => .fail
        else .fail
      | none => .fail
    | none => .fail
  | _ => .fail

def maxB : Nat := 2 ^ 47

def makeSliceA (Γ : Ctx) (nm t : Nat) (lo co : Operand) (len cap : AV) : T (AV × Heap) :=
  match Γ.ty t, len, cap with
  | some ⟨.slc e, _, _, _, _⟩, .int .i64 n, .int .i64 c => match Γ.ty e with
    | some te => match te.ek with
      | some κ => if te.size = κ.size ∧ te.bytes ≠ 0 then match κ.of te.zero with
          | some z =>
            let same : Bool := match lo, co with | .tmp a, .tmp b => Nat.beq a b | _, _ => false
            if same then .ifb (decide (0 ≤ n) && decide ((te.bytes : Int) * n ≤ maxB)) (.ret (.slc nm 0 n.toNat, [(nm, .arr true κ (List.replicate n.toNat z))]))
            else .ifb (decide (0 ≤ n) && decide (n ≤ c) && decide ((te.bytes : Int) * c ≤ maxB)) (.ret (.slc nm 0 n.toNat, [(nm, .arr true κ (List.replicate c.toNat z))]))
          | none => .fail
        else .fail
      | none => .fail
    | none => .fail
  | _, _, _ => .fail

def isZeroC : Option Operand → Bool
  | some (.const (.int _ n)) => n == 0
  | _ => false

def sliceA (Γ : Ctx) (h : Heap) (t : Nat) (x : AV) (lo hi mx : Option AV) (hio mxo : Option Operand) : T AV :=
  match Γ.ty t, x with
  | some ⟨.str, _, _, _, _⟩, .str s => match lo, hi, mx with
    | none, none, none => .ret (.str (s.extract 0 s.size))
    | some (.int _ l), none, none => .ifb (decide (0 ≤ l) && decide (l ≤ (s.size : Int))) (.ret (.str (s.extract l.toNat s.size)))
    | none, some (.int _ r), none => .ifb (decide (0 ≤ r) && decide (r ≤ (s.size : Int))) (.ret (.str (s.extract 0 r.toNat)))
    | some (.int _ l), some (.int _ r), none => .ifb (decide (0 ≤ r) && decide (r ≤ (s.size : Int)) && (decide (0 ≤ l) && decide (l ≤ r))) (.ret (.str (s.extract l.toNat r.toNat)))
    | _, _, _ => .fail
  | some ⟨.slc e, _, _, _, _⟩, x =>
    let same (n : Nat) (r : T AV) : T AV := match hget h n with
      | some (.arr _ κ _) => if sizeOfA Γ e = κ.size then r else .fail
      | _ => .fail
    if lo.isNone && isZeroC hio && isZeroC mxo then (if sizeOfA Γ e ≠ 0 then (match x with | .slc _ _ _ => .ret (.nils none) | .nils k => .ret (.nils k) | _ => .fail) else .fail) else
    match x, lo, hi, mx with
    | .slc n off len, none, none, none => if sizeOfA Γ e ≠ 0 then .ret (.slc n off len) else .fail
    | .slc n off len, some (.int _ l), none, none => same n (.ifb (decide (0 ≤ l) && decide (l ≤ (len : Int))) (.ret (.slc n (off + l.toNat) (len - l.toNat))))
    | .slc n off len, none, some (.int _ r), none => same n (.ifb (decide (0 ≤ r) && decide (r ≤ (len : Int))) (.ret (.slc n off r.toNat)))
    | .slc n off len, some (.int _ l), some (.int _ r), none => same n (.ifb (decide (0 ≤ r) && decide (r ≤ (len : Int)) && (decide (0 ≤ l) && decide (l ≤ r))) (.ret (.slc n (off + l.toNat) (r.toNat - l.toNat))))
    | _, _, _, _ => .fail
  | _, _ => .fail

def maxN (b : Bool) (x y : Int) : Int := if b then (if y > x then y else x) else (if y < x then y else x)

def foldMM (b : Bool) (k : IntKind) : Int → List AV → Option Int
  | x, [] => some x
  | x, .int k' y :: r => if k' = k then foldMM b k (maxN b x y) r else none
  | _, _ => none

def maxA : Nat := 2 ^ 36

def TyI.notInt (t : TyI) : Bool := match t.d with | .int _ => false | _ => true

/-- 'append(s, x...)': the old block is gone. -/
def appendA (Γ : Ctx) (h : Heap) (nm : Nat) (ts : List Nat) (s x : AV) : T (AV × Heap) :=
  match ts with
  | st :: xt :: _ => match Γ.ty st with
    | some ⟨.slc e, _, _, _, _⟩ => match Γ.ty e, Γ.ty xt with
      | some te, some tx => match te.ek with
        | some κ => if te.size = κ.size ∧ 0 < te.size ∧ te.bytes ≤ 64 ∧ tx.notInt = true then
            let new : Option (List κ.den) := match x with
              | .nils _ => some []
              | .slc m off len => match hget h m with
                | some (.arr _ κ' l) => if e : κ' = κ then some (e ▸ sub l off len) else none
                | _ => none
              | _ => none
            bif !(hget h nm).isNone then .fail else
            match new with
            | none => .fail
            | some new => match s with
              | .nils _ => .ifb (decide (new.length ≤ maxA)) (.ret (.slc nm 0 new.length, h ++ [(nm, .arr true κ new)]))
              | .slc n off len => match hget h n with
                | some (.arr true κ' l) => if e : κ' = κ then
                    .ifb (decide (len + new.length ≤ maxA)) (.ret (.slc nm 0 (sub (e ▸ l) off len ++ new).length, hset h n .dead ++ [(nm, .arr true κ (sub (e ▸ l) off len ++ new))]))
                  else .fail
                | _ => .fail
              | _ => .fail
          else .fail
        | none => .fail
      | _, _ => .fail
    | _ => .fail
  | _ => .fail

def builtinA (Γ : Ctx) (b : Builtin) (ts : List Nat) (args : List AV) : T AV :=
  match b, args with
  | .len, [.str s] => match ts with
    | t :: _ => match Γ.ty t with | some ⟨.str, _, _, _, _⟩ => .ret (.int .i64 s.size) | _ => .fail
    | _ => .fail
  | .len, [.slc _ _ len] => match ts with
    | t :: _ => match Γ.ty t with | some ⟨.slc _, _, _, _, _⟩ => .ret (.int .i64 len) | _ => .fail
    | _ => .fail
  | .len, [.nils _] => match ts with
    | t :: _ => match Γ.ty t with | some ⟨.slc _, _, _, _, _⟩ => .ret (.int .i64 (0 : Nat)) | _ => .fail
    | _ => .fail
  | .complex, [.flt k x, .flt k' y] => if e : k' = k then .ret (.cpx k x (e ▸ y)) else .fail
  | .real, [.cpx k x _] => .ret (.flt k x)
  | .imag, [.cpx k _ y] => .ret (.flt k y)
  | .max, .int k x :: r => match foldMM true k x r with | some n => .ret (.int k n) | none => .fail
  | .min, .int k x :: r => match foldMM false k x r with | some n => .ret (.int k n) | none => .fail
  | _, _ => .fail

def fresh (h : Heap) : Heap → Bool
  | [] => true
  | (n, _) :: r => (hget h n).isNone && (hget r n).isNone && fresh h r

def useSpec (s : FSpec) (args : List AV) (h : Heap) (nm : Nat) : T (AV × Heap) :=
  match DS.reads h s.args args with
  | none => .fail
  | some x => .bnd (s.F x) fun r =>
    let out := DS.layTup (nm * 1024 + 1000) s.res r 0
    .ret (match out.1 with | [v] => v | vs => .tup vs, out.2.1)

/-- what a call's target is -/
def callee (args : List AV) : AV → Option (Nat × List AV)
  | .fn (.func f) first cap => some (f, (first ++ args) ++ cap)
  | _ => none

abbrev CallF := Nat → List AV → Heap → Nat → T (AV × Heap)

def opName (nm : Nat) (o : Oper) : Nat := (nm * 1024 + o.dst.getD 1022 + 1)

/-- nil slices of a known type -/
def nilsOf (Γ : Ctx) (t : Nat) (nm : Nat) : AV → AV × Heap
  | .nils none => match Γ.ty t with
    | some ⟨.slc e, _, _, _, _⟩ => match (Γ.ty e).bind (·.ek) with
      | some κ => (.slc nm 0 0, [(nm, .arr true κ [])])
      | none => (.nils none, [])
    | _ => (.nils none, [])
  | .nils (some κ) => (.slc nm 0 0, [(nm, .arr true κ [])])
  | v => (v, [])

/-- a name that is not taken yet, near 'nm' -/
def freeName (h : Heap) (nm : Nat) : Nat := match hget h nm with
  | none => nm
  | some _ => match hget h (nm + 2 ^ 80) with
    | none => nm + 2 ^ 80
    | some _ => nm + 2 ^ 81

def pure1 (t : T AV) : T (AV × Heap) := t.bind fun w => .ret (w, [])

/-- One operation that turns no memory that was there: its value, and new blocks. -/
def evOpA (Γ : Ctx) (tm : List AV) (h : Heap) (nm : Nat) (o : Oper) : T (AV × Heap) :=
  let v := opv tm
  let nm := opName nm o
  match o.op with
  | .move x | .assign x => .ret (nilsOf Γ o.type (freeName h nm) (v x))
  | .pick c a b => match v c with
    | .bl true => .ret (v a, [])
    | .bl false => .ret (v b, [])
    | .bs d => .ret (mergeV d (v a) (v b), [])
    | _ => .fail
  | .alloc t => match Γ.ty t with
    | some ti => newVarA Γ nm ti (if ti.isAgg then .agg ti.zero else match ti.zero with | [z] => if cellB z then z else .top | _ => .top)
    | none => .fail
  | .box t x => match Γ.ty t with
    | some ti => newVarA Γ nm ti (v x)
    | none => .fail
  | .build t ps => pure1 (buildA Γ t (ps.toList.map fun p => (p.1, v p.2)))
  | .buildSlice t n ps => buildSliceA Γ nm t n (ps.toList.map fun p => (p.1, v p.2))
  | .load t a => pure1 (loadA Γ h t (v a))
  | .nilCheck x => match v x with
    | .ptr n i c => .ret (.ptr n i c, [])
    | .fn (.func f) a b => .ret (.fn (.func f) a b, [])
    | _ => .fail
  | .binOp op t x y _ => pure1 (binOpA Γ op t (v x) (v y) y)
  | .unOp op _ x => pure1 (unOpA op (v x))
  | .convert s d x => pure1 (convertA Γ h s d (v x))
  | .makeFunc f a b => .ret (.fn f (a.toList.map v) (b.toList.map v), [])
  | .makeSlice t l c => makeSliceA Γ nm t l c (v l) (v c)
  | .slice t x lo hi mx => pure1 (sliceA Γ h t (v x) (lo.map v) (hi.map v) (mx.map v) hi mx)
  | .fieldAddr t x f => pure1 (fieldAddrA Γ h t (v x) f)
  | .field t x f => pure1 (fieldA Γ t (v x) f)
  | .indexAddr t x i => pure1 (indexAddrA Γ h t (v x) (v i))
  | .index t x i => pure1 (indexA Γ t (v x) (v i))
  | .extract t i => match v t with
    | .tup l => pure1 (T.opt l[i]?)
    | _ => .fail
  | .call c => match c.callee with
    | .builtin b => pure1 (builtinA Γ b c.argTypes.toList (c.args.toList.map v))
    | .value f => match callee (c.args.toList.map v) (v f) with
      | some (g, as) => match Γ.spec g with
        | some s => useSpec s as h nm
        | none => .fail
      | none => .fail
    | _ => .fail
  | _ => .fail

/-- new blocks, if their names are new -/
def addNew (h : Heap) (x : AV × Heap) : T (AV × Heap) :=
  match x.2 with
  | [] => .ret (x.1, h)
  | d => bif fresh h d then .ret (x.1, h ++ d) else .fail

/-- the operations that are not of that kind -/
inductive Kind where
  | add | store | append | inl

def kindOf (Γ : Ctx) (tm : List AV) (o : Oper) : Kind :=
  match o.op with
  | .store .. => .store
  | .call c => match c.callee with
    | .builtin .append => .append
    | .value f => match callee (c.args.toList.map (opv tm)) (opv tm f) with
      | some (g, _) => match Γ.spec g with
        | some _ => .add
        | none => .inl
      | none => .add
    | _ => .add
  | _ => .add

/-- One operation: its value and the heap behind it. -/
def evOp (Γ : Ctx) (call : CallF) (tm : List AV) (h : Heap) (nm : Nat) (o : Oper) : T (AV × Heap) :=
  match kindOf Γ tm o with
  | .add => (evOpA Γ tm h nm o).bind (addNew h)
  | .store => match o.op with
    | .store t a x => (storeA Γ h t (opv tm a) (opv tm x)).bind fun h' => .ret (.tup [], h')
    | _ => .fail
  | .append => match o.op with
    | .call c => match c.args.toList with
      | [s, x] => appendA Γ h (opName nm o) c.argTypes.toList (opv tm s) (opv tm x)
      | _ => .fail
    | _ => .fail
  | .inl => match o.op with
    | .call c => match c.callee with
      | .value f => match callee (c.args.toList.map (opv tm)) (opv tm f) with
        | some (g, as) => call g as h (opName nm o)
        | none => .fail
      | _ => .fail
    | _ => .fail

def setD (tm : List AV) (d : Option Nat) (v : AV) : List AV := match d with | some d => tm.set d v | none => tm

/-- the slot of operation j's value -/
def slotOf (ops : List Oper) (j : Nat) : Option Nat := (ops[j]?).bind (·.dst)

def evOps (Γ : Ctx) (call : CallF) (nm : Nat) (all : List Oper) : List Oper → St → T St
  | [], s => .ret s
  | o :: rest, s =>
    let run (tm : List AV) : T St := (evOp Γ call tm s.hp nm o).bind fun r => evOps Γ call nm all rest ⟨setD tm o.dst r.1, r.2⟩
    let skip (tm : List AV) : T St := evOps Γ call nm all rest ⟨setD tm o.dst (.tup []), s.hp⟩
    match o.guard with
    | none => run s.tm
    | some (j, want) => match slotOf all j with
      | none => .fail
      | some d => match s.tm.getD d .top with
        | .bl b => bif b == want then run s.tm else skip s.tm
        | .bs b => .node b (bif want then run (s.tm.set d (.bl true)) else skip (s.tm.set d (.bl true)))
            (bif want then skip (s.tm.set d (.bl false)) else run (s.tm.set d (.bl false)))
        | .tup [] => skip s.tm
        | _ => .fail

/-! ### Regions whose order is open -/
/-- the operations that must come ahead of each one, as bits -/
def befores (ops : List Oper) : List Nat :=
  ops.foldl (init := []) fun acc o =>
    acc ++ [o.after.toList.foldl (fun s e => bif Region.binds .any e then s ||| 2 ^ e.on ||| acc.getD e.on 0 else s) 0]

/-- from here on each operation waits for all ahead of it -/
def tailFrom (bs : List Nat) : (n : Nat) → Nat
  | 0 => 0
  | n + 1 => bif Nat.beq (bs.getD n 0) (2 ^ n - 1) then tailFrom bs n else n + 1

def looksT (all : List Oper) (o : Oper) : List Nat :=
  (o.op.operands.toList.filterMap fun | .tmp t => some t | _ => none) ++ (match o.guard with | some (g, _) => (slotOf all g).toList | none => [])

/-- what an operation looks at has been written by those ahead of it, or by none of the region's -/
def drawOk (all : List Oper) (bs : List Nat) (p : Nat) : Bool :=
  nodupN ((all.take p).filterMap (·.dst)) &&
  (List.range p).all fun j => match all[j]? with
    | none => false
    | some o => (looksT all o).all fun t => (List.range p).all fun i => match slotOf all i with
      | some d => !Nat.beq d t || (bs.getD j 0).testBit i
      | none => true
where
  nodupN : List Nat → Bool
    | [] => true
    | x :: r => !r.any (Nat.beq x) && nodupN r

def pickD (b : Nat) : (j : Nat) → List Heap → Heap
  | _, [] => []
  | j, d :: r => bif b.testBit j then d ++ pickD b (j + 1) r else pickD b (j + 1) r

def joinD : List Heap → Heap
  | [] => []
  | d :: r => d ++ joinD r

/-- the operations that may come in any order -/
def evDraw (Γ : Ctx) (nm : Nat) (all : List Oper) (bs : List Nat) (h : Heap) : List Oper → (j : Nat) → List AV → List Heap → T (List AV × List Heap)
  | [], _, tm, ds => .ret (tm, ds)
  | o :: rest, j, tm, ds =>
    let run (tm : List AV) : T (List AV × List Heap) :=
      match kindOf Γ tm o with
      | .add => (evOpA Γ tm (h ++ pickD (bs.getD j 0) 0 ds) nm o).bind fun r =>
          bif fresh (h ++ joinD ds) r.2 then evDraw Γ nm all bs h rest (j + 1) (setD tm o.dst r.1) (ds ++ [r.2]) else .fail
      | _ => .fail
    let skip (tm : List AV) : T (List AV × List Heap) := evDraw Γ nm all bs h rest (j + 1) (setD tm o.dst (.tup [])) (ds ++ [[]])
    match o.guard with
    | none => run tm
    | some (g, want) => match slotOf all g with
      | none => .fail
      | some d => match tm.getD d .top with
        | .bl b => bif b == want then run tm else skip tm
        | .bs b => .node b (bif want then run (tm.set d (.bl true)) else skip (tm.set d (.bl true)))
            (bif want then skip (tm.set d (.bl false)) else run (tm.set d (.bl false)))
        | .tup [] => skip tm
        | _ => .fail

def evRegion (Γ : Ctx) (call : CallF) (nm : Nat) (ops : List Oper) (draw : Bool) (s : St) : T St :=
  bif draw then
    let bs := befores ops
    let p := tailFrom bs ops.length
    bif drawOk ops bs p then
      (evDraw Γ nm ops bs s.hp (ops.take p) 0 s.tm []).bind fun r => evOps Γ call nm ops (ops.drop p) ⟨r.1, s.hp ++ joinD r.2⟩
    else .fail
  else evOps Γ call nm ops ops s

end Go.Ab
