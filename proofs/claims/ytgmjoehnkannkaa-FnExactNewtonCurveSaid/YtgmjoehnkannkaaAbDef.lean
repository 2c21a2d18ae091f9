/-
  An evaluator of the program's code over abstract values: data, not memory; floats up to a NaN's bits. This file: the definitions.
-/
import Derived.Test.YtgmjoehnkannkaaAbFl
import Derived.Orders
import Derived.Still
namespace Go.Ab

/-- Kinds of elements. -/
inductive EK where
  | bool | int (k : IntKind) | flt (k : FloatKind) | cpx (k : FloatKind) | str | pair (a b : EK)
  deriving DecidableEq, Inhabited

@[reducible] def EK.den : EK → Type
  | .bool => Bool
  | .int _ => Int
  | .flt k => Fl k
  | .cpx k => Fl k × Fl k
  | .str => ByteArray
  | .pair a b => a.den × b.den

/-- Abstract values. 'ptr n i c': cell c of element i of block n. 'slc n off len': elements of block n. 'nils': length 0, capacity 0. -/
inductive AV where
  | top
  | bl (b : Bool)
  | bs (b : Bool)
  | int (k : IntKind) (n : Int)
  | flt (k : FloatKind) (x : Fl k)
  | cpx (k : FloatKind) (x y : Fl k)
  | str (s : ByteArray)
  | nilp
  | ptr (n i c : Nat)
  | slc (n off len : Nat)
  | nils (κ : Option EK)
  | fn (f : Fn) (first cap : List AV)
  | agg (l : List AV)
  | arv (κ : EK) (l : List κ.den)
  | tup (l : List AV)
  deriving Inhabited

def EK.size : EK → Nat
  | .pair a b => a.size + b.size
  | _ => 1

def EK.dflt : (κ : EK) → κ.den
  | .bool => false
  | .int _ => (0 : Int)
  | .flt k => Fl.nan k
  | .cpx k => (Fl.nan k, Fl.nan k)
  | .str => ByteArray.empty
  | .pair a b => (a.dflt, b.dflt)

def EK.cells : (κ : EK) → κ.den → List AV
  | .bool, b => [.bs b]
  | .int k, n => [.int k n]
  | .flt k, x => [.flt k x]
  | .cpx k, x => [.cpx k x.1 x.2]
  | .str, s => [.str s]
  | .pair a b, x => a.cells x.1 ++ b.cells x.2

/-- as one value: a lone cell, or the cells together -/
def EK.val (κ : EK) (x : κ.den) : AV :=
  match κ, x with
  | .bool, b => .bs b
  | .int k, n => .int k n
  | .flt k, x => .flt k x
  | .cpx k, x => .cpx k x.1 x.2
  | .str, s => .str s
  | .pair a b, x => .agg ((EK.pair a b).cells x)

def EK.of : (κ : EK) → List AV → Option κ.den
  | .bool, [.bs b] => some b
  | .bool, [.bl b] => some b
  | .int k, [.int k' n] => if k' = k then some n else none
  | .flt k, [.flt k' x] => if h : k' = k then some (h ▸ x) else none
  | .cpx k, [.cpx k' x y] => if h : k' = k then some (h ▸ x, h ▸ y) else none
  | .str, [.str s] => some s
  | .pair a b, l => match a.of (l.take a.size), b.of (l.drop a.size) with
    | some x, some y => some (x, y)
    | _, _ => none
  | _, _ => none

/-- An element with some of its cells turned. -/
def EK.upd (κ : EK) (x : κ.den) (c : Nat) (vs : List AV) : Option κ.den :=
  match κ, x with
  | .pair a b, x => (EK.pair a b).of ((((EK.pair a b).cells x).take c) ++ vs ++ (((EK.pair a b).cells x).drop (c + vs.length)))
  | κ, _ => κ.of vs

/-- A block of memory. -/
inductive Blk where
  | vals (own : Bool) (l : List AV)
  | arr (own : Bool) (κ : EK) (l : List κ.den)
  | dead
  deriving Inhabited

abbrev Heap := List (Nat × Blk)

def hget : Heap → Nat → Option Blk
  | [], _ => none
  | (m, b) :: r, n => bif Nat.beq m n then some b else hget r n

def hset : Heap → Nat → Blk → Heap
  | [], _, _ => []
  | (m, b) :: r, n, b' => bif Nat.beq m n then (m, b') :: r else (m, b) :: hset r n b'

/-- What an evaluation gives: a tree over what is not decided. -/
inductive T (α : Type) : Type 1 where
  | fail
  | ret (a : α)
  | node (b : Bool) (t f : T α)
  | bnd {β : Type} (o : Option β) (k : β → T α)
  | cas {β γ : Type} (r : β ⊕ γ) (k : β → T α) (l : γ → T α)
  | miss {β : Type} (b : β)

def T.bind {α β : Type} : T α → (α → T β) → T β
  | .fail, _ => .fail
  | .ret a, k => k a
  | .node b t f, k => .node b (t.bind k) (f.bind k)
  | .bnd o j, k => .bnd o fun x => (j x).bind k
  | .cas r j l, k => .cas r (fun x => (j x).bind k) (fun x => (l x).bind k)
  | .miss b, _ => .miss b

def T.den {α : Type} : T α → Option α
  | .fail => none
  | .ret a => some a
  | .node b t f => bif b then t.den else f.den
  | .bnd o k => o.bind fun x => (k x).den
  | .cas r k l => match r with
    | .inl x => (k x).den
    | .inr x => (l x).den
  | .miss _ => none

def T.map {α β : Type} (g : α → β) (t : T α) : T β := t.bind fun a => .ret (g a)
def T.opt {α : Type} : Option α → T α
  | some a => .ret a
  | none => .fail
/-- a check that must hold -/
def T.ifb {α : Type} (b : Bool) (t : T α) : T α := .node b t .fail

/-! ### Types -/
inductive TyD where
  | bool | int (k : IntKind) | flt (k : FloatKind) | cpx (k : FloatKind) | str | slc (e : Nat) | arr (n e : Nat) | struct (fs : List (Nat × Nat)) | ptr (e : Nat) | fn | other
  deriving DecidableEq, Inhabited

structure TyI where
  d : TyD
  size : Nat
  bytes : Nat
  zero : List AV
  ek : Option EK
  deriving Inhabited

def TyI.isAgg (t : TyI) : Bool := match t.d with | .struct _ | .arr _ _ => true | _ => false

/-! ### Shapes of data that calls take and give -/
inductive DS where
  | bool | int (k : IntKind) | flt (k : FloatKind) | cpx (k : FloatKind) | str | list (κ : EK) | agg (l : List DS) | ptr (d : DS)
  deriving Inhabited

mutual
@[reducible] def DS.den : DS → Type
  | .bool => Bool
  | .int _ => Int
  | .flt k => Fl k
  | .cpx k => Fl k × Fl k
  | .str => ByteArray
  | .list κ => List κ.den
  | .agg l => DS.dens l
  | .ptr d => d.den
@[reducible] def DS.dens : List DS → Type
  | [] => Unit
  | [d] => d.den
  | d :: e :: r => d.den × DS.dens (e :: r)
end

/-- 'sub l off len': the elements. -/
def sub {α : Type} (l : List α) (off len : Nat) : List α := (l.drop off).take len

mutual
def DS.read (h : Heap) : (d : DS) → AV → Option d.den
  | .bool, .bs b => some b
  | .bool, .bl b => some b
  | .int k, .int k' n => if k' = k then some n else none
  | .flt k, .flt k' x => if e : k' = k then some (e ▸ x) else none
  | .cpx k, .cpx k' x y => if e : k' = k then some (e ▸ x, e ▸ y) else none
  | .str, .str s => some s
  | .list _, .nils _ => some []
  | .list κ, .slc n off len => match hget h n with
    | some (.arr _ κ' l) => if e : κ' = κ then some (e ▸ sub l off len) else none
    | _ => none
  | .agg l, .agg vs => DS.reads h l vs
  | .ptr d, .ptr n i c => match hget h n with
    | some (.vals _ l) => match d with
      | .agg ds => if i = 0 ∧ c = 0 ∧ l.length = ds.length then DS.reads h ds l else none
      | _ => none
    | _ => none
  | _, _ => none
def DS.reads (h : Heap) : (d : List DS) → List AV → Option (DS.dens d)
  | [], [] => some ()
  | [d], [v] => d.read h v
  | d :: e :: r, v :: vs => match d.read h v, DS.reads h (e :: r) vs with
    | some x, some y => some (x, y)
    | _, _ => none
  | _, _ => none
end

/-- A result laid out: its value, new blocks, how many names are used. -/
def DS.lay (nm : Nat) : (d : DS) → d.den → Nat → AV × Heap × Nat
  | .bool, b, j => (.bs b, [], j)
  | .int k, n, j => (.int k n, [], j)
  | .flt k, x, j => (.flt k x, [], j)
  | .cpx k, x, j => (.cpx k x.1 x.2, [], j)
  | .str, s, j => (.str s, [], j)
  | .list κ, l, j => (.slc (nm + j) 0 l.length, [(nm + j, .arr true κ l)], j + 1)
  | _, _, j => (.top, [], j)

/-- cells of a struct: each one plain or a list -/
def DS.lays (nm : Nat) : (d : List DS) → DS.dens d → Nat → List AV × Heap × Nat
  | [], _, j => ([], [], j)
  | [d], x, j => let (v, h, j') := d.lay nm x j; ([v], h, j')
  | d :: e :: r, x, j =>
    let (v, h, j') := d.lay nm x.1 j
    let (vs, h', j'') := DS.lays nm (e :: r) x.2 j'
    (v :: vs, h ++ h', j'')

/-- A result as a whole: a plain one, a struct, or a tuple of these. -/
def DS.layRes (nm : Nat) : (d : DS) → d.den → Nat → AV × Heap × Nat
  | .agg l, x, j => let (vs, h, j') := DS.lays nm l x j; (.agg vs, h, j')
  | .bool, b, j => DS.lay nm .bool b j
  | .int k, n, j => DS.lay nm (.int k) n j
  | .flt k, x, j => DS.lay nm (.flt k) x j
  | .cpx k, x, j => DS.lay nm (.cpx k) x j
  | .str, s, j => DS.lay nm .str s j
  | .list κ, l, j => DS.lay nm (.list κ) l j
  | .ptr _, _, j => (.top, [], j)

def DS.layTup (nm : Nat) : (d : List DS) → DS.dens d → Nat → List AV × Heap × Nat
  | [], _, j => ([], [], j)
  | [d], x, j => let (v, h, j') := d.layRes nm x j; ([v], h, j')
  | d :: e :: r, x, j =>
    let (v, h, j') := d.layRes nm x.1 j
    let (vs, h', j'') := DS.layTup nm (e :: r) x.2 j'
    (v :: vs, h ++ h', j'')

/-- What a function does, as a plain function of data. -/
structure FSpec where
  args : List DS
  res : List DS
  F : DS.dens args → Option (DS.dens res)

end Go.Ab
