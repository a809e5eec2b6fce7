/- What a program does, told by data: the parts a, b, c, d, e, f, g, h, i, j, k, l, m, n, o. -/
import Derived.Test.YtofhmhbffdoiaaaDoorSXt
import Derived.Test.YtofhmhbffdoiaaaDoorSXz
/- VX, part a: values, items and states of a program told by data alone, and what an operation does to them. -/
namespace Go.VX
noncomputable section
open Go Go.SX

/-- Types of data. -/
inductive TC where
  | int (k : IntKind) | bool | str | sl (c : TC) | st (n : Nat)
  deriving DecidableEq
def TC.D (S : Nat → Type) : TC → Type
  | .int _ => Int
  | .bool => Bool
  | .str => ByteArray
  | .sl c => List (c.D S)
  | .st n => S n
/-- Is a slice nil? -/
inductive Nz where
  | nil | non | unk
  | fl (b : Bool)
  deriving DecidableEq
/-- A value. -/
inductive AV (S : Nat → Type) : Type where
  | any | nilp | nilf | nils
  | int (k : IntKind) (x : Int)
  | bl (b : Bool)
  | pr (p : Prop) (i : Decidable p)
  | str (s : ByteArray)
  | ro (c : TC) (xs : List (c.D S)) (z : Nz)
  | own (id : Nat)
  | part (id : Nat) (lo hi : Int)
  | ptr (id off : Nat)
  | aptr (id : Nat)
  | eown (id : Nat) (i : Int) (off : Nat)
  | ero (c : TC) (x : c.D S) (off : Nat)
  | lits (id n : Nat)
  | arr (k : IntKind) (N : Nat) (xs : List Int)
  | agg (cs : List (AV S))
  | tup (vs : List (AV S))
  | fn (f : Nat) (first cap : List (AV S))
  | glob (g : Nat)
  | yld (id : Nat)
abbrev AV.prop {S : Nat → Type} (p : Prop) [i : Decidable p] : AV S := .pr p i
/-- What is one's own (blk, sl), or was (ro). -/
inductive AI (S : Nat → Type) : Type where
  | blk (t : Nat) (cs : List (AV S))
  | sl (c : TC) (t sz : Nat) (xs : List (c.D S)) (z : Nz)
  | ro (c : TC) (xs : List (c.D S)) (z : Nz)
  | arr (i : IntKind) (t N : Nat) (xs : List Int)

/-- Shapes. -/
inductive ShV where
  | any | nilp | nilf | nils
  | int (k : IntKind) | bl | str | ro (c : TC) | roz (c : TC) (z : Nz)
  | own (j : Nat) | part (j : Nat) | ptr (j off : Nat) | aptr (j : Nat)
  | stc (n : Nat) | arr (k : IntKind) (N : Nat)
  | agg (l : List ShV) | tup (l : List ShV) | fn (f : Nat) (a b : List ShV)
  | rof (c : TC) | yld (j : Nat)
  | intc (k : IntKind) (n : Int) | blc (b : Bool)
  | lits (j n : Nat)
inductive ShI where
  | blk (t : Nat) (l : List ShV)
  | sl (c : TC) (t sz : Nat) (z : Nz)
  | ro (c : TC) (z : Nz)
  | arr (i : IntKind) (t N : Nat)
structure Sh where
  env : List (Nat × ShV)
  its : List (Nat × ShI)
  nx : Nat
/-- Data of several shapes: one behind the other. -/
def Tup {α : Type} (f : α → Type) : List α → Type
  | [] => Unit
  | [a] => f a
  | a :: b :: l => f a × Tup f (b :: l)
def Tup.hd {α : Type} {f : α → Type} {a : α} : {l : List α} → Tup f (a :: l) → f a
  | [], x => x
  | _ :: _, x => x.1
def Tup.tl {α : Type} {f : α → Type} {a : α} : {l : List α} → Tup f (a :: l) → Tup f l
  | [], _ => ()
  | _ :: _, x => x.2
def Tup.cons {α : Type} {f : α → Type} {a : α} : {l : List α} → f a → Tup f l → Tup f (a :: l)
  | [], x, _ => x
  | _ :: _, x, y => (x, y)
mutual
def ShV.ty (S : Nat → Type) : ShV → Type
  | .int _ => Int
  | .bl => Bool
  | .str => ByteArray
  | .ro c => List (c.D S)
  | .roz c _ => List (c.D S)
  | .part _ => Int × Int
  | .stc n => S n
  | .arr _ _ => List Int
  | .agg l => ShV.tyL S l
  | .tup l => ShV.tyL S l
  | .fn _ a b => ShV.tyL S a × ShV.tyL S b
  | .rof c => Bool × List (c.D S)
  | .any | .nilp | .nilf | .nils | .own _ | .ptr _ _ | .aptr _ | .yld _ | .intc _ _ | .blc _ | .lits _ _ => Unit
def ShV.tyL (S : Nat → Type) : List ShV → Type
  | [] => Unit
  | [s] => s.ty S
  | s :: t :: l => s.ty S × ShV.tyL S (t :: l)
end
def hdL {S : Nat → Type} {s : ShV} : {l : List ShV} → ShV.tyL S (s :: l) → s.ty S
  | [], x => x
  | _ :: _, x => x.1
def tlL {S : Nat → Type} {s : ShV} : {l : List ShV} → ShV.tyL S (s :: l) → ShV.tyL S l
  | [], _ => ()
  | _ :: _, x => x.2
def consL {S : Nat → Type} {s : ShV} : {l : List ShV} → s.ty S → ShV.tyL S l → ShV.tyL S (s :: l)
  | [], x, _ => x
  | _ :: _, x, y => (x, y)
def ShI.ty (S : Nat → Type) : ShI → Type
  | .blk _ l => ShV.tyL S l
  | .sl c _ _ _ => List (c.D S)
  | .ro c _ => List (c.D S)
  | .arr _ _ _ => List Int
abbrev tyI (S : Nat → Type) (l : List (Nat × ShI)) : Type := Tup (fun s => s.2.ty S) l
abbrev tyE (S : Nat → Type) (l : List (Nat × ShV)) : Type := Tup (fun s => s.2.ty S) l
/-- Data with those of what is one's own, if there is any. -/
def P2 (A : Type) (S : Nat → Type) : List (Nat × ShI) → Type
  | [] => A
  | s :: l => A × tyI S (s :: l)
def P2.a {A : Type} {S : Nat → Type} : {l : List (Nat × ShI)} → P2 A S l → A
  | [], x => x
  | _ :: _, x => x.1
def P2.b {A : Type} {S : Nat → Type} : {l : List (Nat × ShI)} → P2 A S l → tyI S l
  | [], _ => ()
  | _ :: _, x => x.2
def P2.mk {A : Type} {S : Nat → Type} : {l : List (Nat × ShI)} → A → tyI S l → P2 A S l
  | [], x, _ => x
  | _ :: _, x, y => (x, y)
def Sh.ty (S : Nat → Type) (s : Sh) : Type := P2 (tyE S s.env) S s.its

/-- A struct's data as those of its cells. -/
structure SInf (S : Nat → Type) (n : Nat) where
  cells : List ShV
  to : S n → ShV.tyL S cells
  of : ShV.tyL S cells → S n
structure Cx (S : Nat → Type) where
  T : Tb
  si : (n : Nat) → SInf S n
  tc : Nat → Option TC
  cmp : Nat → Bool := fun _ => false
  gl : Nat → Option (IntKind × List Int) := fun _ => none
variable {S : Nat → Type}

abbrev Env (S : Nat → Type) := List (Nat × AV S)
abbrev Its (S : Nat → Type) := List (Nat × AI S)
def lkE (t : Nat) : Env S → AV S
  | [] => .any
  | p :: r => bif Nat.beq p.1 t then p.2 else lkE t r
def lkI (id : Nat) : Its S → Option (AI S)
  | [] => none
  | p :: r => bif Nat.beq p.1 id then some p.2 else lkI id r
def updI {β : Type} (id : Nat) (x : AI S) : Its S → (Its S → β) → β
  | [], k => k []
  | p :: r, k => bif Nat.beq p.1 id then k ((p.1, x) :: r) else updI id x r fun r' => k (p :: r')
def delI {β : Type} (id : Nat) : Its S → (Its S → β) → β
  | [], k => k []
  | p :: r, k => bif Nat.beq p.1 id then delI id r k else delI id r fun r' => k (p :: r')

/-- How many cells data of this type have. -/
def shN (cx : Cx S) : TC → Nat
  | .st n => (cx.si n).cells.length
  | _ => 1
/-! ### Shapes and values -/
mutual
def mkV (cx : Cx S) (f : Nat → Nat) : (s : ShV) → s.ty S → AV S
  | .any, _ => .any
  | .nilp, _ => .nilp
  | .nilf, _ => .nilf
  | .nils, _ => .nils
  | .int k, x => .int k x
  | .bl, b => .bl b
  | .str, s => .str s
  | .ro c, xs => .ro c xs .unk
  | .roz c z, xs => .ro c xs z
  | .own j, _ => .own (f j)
  | .part j, x => .part (f j) x.1 x.2
  | .ptr j off, _ => .ptr (f j) off
  | .aptr j, _ => .aptr (f j)
  | .stc n, x => .agg (mkS (cx.si n).cells ((cx.si n).to x))
  | .arr k N, xs => .arr k N xs
  | .agg l, x => .agg (mkL cx f l x)
  | .tup l, x => .tup (mkL cx f l x)
  | .fn g a b, x => .fn g (mkL cx f a x.1) (mkL cx f b x.2)
  | .rof c, x => .ro c x.2 (.fl x.1)
  | .yld j, _ => .yld (f j)
  | .intc k n, _ => .int k n
  | .blc b, _ => .bl b
  | .lits j n, _ => .lits (f j) n
def mkL (cx : Cx S) (f : Nat → Nat) : (l : List ShV) → ShV.tyL S l → List (AV S)
  | [], _ => []
  | s :: l, x => mkV cx f s (hdL x) :: mkL cx f l (tlL x)
/-- Cells of a struct that is only data: numbers, bools, strings, slices that are only read. -/
def mkS : (l : List ShV) → ShV.tyL S l → List (AV S)
  | [], _ => []
  | .int k :: l, x => .int k (hdL x) :: mkS l (tlL x)
  | .bl :: l, x => .bl (hdL x) :: mkS l (tlL x)
  | .str :: l, x => .str (hdL x) :: mkS l (tlL x)
  | .ro c :: l, x => .ro c (hdL x) .unk :: mkS l (tlL x)
  | _ :: l, x => .any :: mkS l (tlL x)
end
def mkI (cx : Cx S) (f : Nat → Nat) : (s : ShI) → s.ty S → AI S
  | .blk t l, x => .blk t (mkL cx f l x)
  | .sl c t sz z, xs => .sl c t sz xs z
  | .ro c z, xs => .ro c xs z
  | .arr i t N, xs => .arr i t N xs
def mkE (cx : Cx S) (f : Nat → Nat) : (l : List (Nat × ShV)) → tyE S l → Env S
  | [], _ => []
  | s :: l, x => (s.1, mkV cx f s.2 x.hd) :: mkE cx f l x.tl
def mkIs (cx : Cx S) (f : Nat → Nat) : (l : List (Nat × ShI)) → tyI S l → Its S
  | [], _ => []
  | s :: l, x => (f s.1, mkI cx f s.2 x.hd) :: mkIs cx f l x.tl

abbrev Sg := List (Nat × Nat)
def lkS (j : Nat) : Sg → Option Nat
  | [] => none
  | p :: r => bif Nat.beq p.1 j then some p.2 else lkS j r
def idsG : Sg → List Nat
  | [] => []
  | p :: r => p.2 :: idsG r
def memN (x : Nat) : List Nat → Bool
  | [] => false
  | y :: l => bif Nat.beq y x then true else memN x l
/-- The id of the canonical number j is this one (and of no other). -/
def bindId {β : Type} (j id : Nat) (g : Sg) (k : Sg → Option β) : Option β :=
  match lkS j g with
  | some id' => bif Nat.beq id' id then k g else none
  | none => bif memN id (idsG g) then none else k ((j, id) :: g)
/-- A slice's elements, if it is one that is only read (or is given away now); what of one's own was looked at. -/
def asRo {β : Type} (c : TC) (v : AV S) (its : Its S) (k : List (c.D S) → Nz → Its S → List Nat → Option β) : Option β :=
  match v with
  | .nils => k [] .nil its []
  | .ro c' xs z => if h : c' = c then k (h ▸ xs) z its [] else none
  | .own id => match lkI id its with
    | some (.sl c' _ _ xs z) => if h : c' = c then updI id (.ro c (h ▸ xs) z) its fun its' => k (h ▸ xs) z its' [id] else none
    | some (.ro c' xs z) => if h : c' = c then k (h ▸ xs) z its [id] else none
    | _ => none
  | .part id lo hi => match lkI id its with
    | some (.sl c' _ _ xs z) => if h : c' = c then updI id (.ro c (h ▸ xs) z) its fun its' => (cutI (h ▸ xs) lo hi).bind fun ys => k ys .unk its' [id] else none
    | some (.ro c' xs _) => if h : c' = c then (cutI (h ▸ xs) lo hi).bind fun ys => k ys .unk its [id] else none
    | _ => none
  | _ => none
def nzLe : Nz → Nz → Bool
  | _, .unk => true
  | .nil, .nil => true
  | .non, .non => true
  | _, _ => false
/-- Is it nil? -/
def nzF {β : Type} (z : Nz) (n : Nat) (k : Bool → Option β) : Option β :=
  match z with
  | .nil => k true
  | .non => k false
  | .fl b => k b
  | .unk => if n = 0 then none else k false
/-- Cells as a struct's data. -/
def ofS {β : Type} : (l : List ShV) → List (AV S) → Its S → (ShV.tyL S l → Its S → List Nat → Option β) → Option β
  | [], [], its, k => k () its []
  | .int i :: l, .int i' x :: vs, its, k => if i' = i then ofS l vs its fun y its d => k (consL x y) its d else none
  | .bl :: l, .bl b :: vs, its, k => ofS l vs its fun y its d => k (consL b y) its d
  | .bl :: l, .pr p i :: vs, its, k => ofS l vs its fun y its d => k (consL (@decide p i) y) its d
  | .str :: l, .str s :: vs, its, k => ofS l vs its fun y its d => k (consL s y) its d
  | .ro c :: l, v :: vs, its, k => asRo c v its fun xs _ its d => ofS l vs its fun y its d' => k (consL xs y) its (d ++ d')
  | _, _, _, _ => none
mutual
def matchV {β : Type} (cx : Cx S) (its0 : List (Nat × ShI)) : (s : ShV) → AV S → Sg → Its S → Nat → List Nat → (s.ty S → Sg → Its S → Nat → List Nat → Option β) → Option β
  | .any, _, g, its, nx, d, k => k () g its nx d
  | .nilp, .nilp, g, its, nx, d, k => k () g its nx d
  | .nilf, .nilf, g, its, nx, d, k => k () g its nx d
  | .nils, .nils, g, its, nx, d, k => k () g its nx d
  | .int i, .int i' x, g, its, nx, d, k => if i' = i then k x g its nx d else none
  | .bl, .bl b, g, its, nx, d, k => k b g its nx d
  | .bl, .pr p i, g, its, nx, d, k => k (@decide p i) g its nx d
  | .str, .str s, g, its, nx, d, k => k s g its nx d
  | .ro c, v, g, its, nx, d, k => asRo c v its fun xs _ its d' => k xs g its nx (d' ++ d)
  | .roz c z, v, g, its, nx, d, k => asRo c v its fun xs z' its d' => bif nzLe z' z then k xs g its nx (d' ++ d) else none
  | .own j, .own id, g, its, nx, d, k => bindId j id g fun g => k () g its nx d
  | .own j, .nils, g, its, nx, d, k => match lkS j g, List.lookup j its0 with
    | none, some (.sl c t sz _) => bif Nat.beq sz (shN cx c) && !memN nx (idsG g) then k () ((j, nx) :: g) ((nx, .sl c t sz [] .nil) :: its) (nx + 1) d else none
    | _, _ => none
  | .own j, .ro _ _ .nil, g, its, nx, d, k => match lkS j g, List.lookup j its0 with
    | none, some (.sl c t sz _) => bif Nat.beq sz (shN cx c) && !memN nx (idsG g) then k () ((j, nx) :: g) ((nx, .sl c t sz [] .nil) :: its) (nx + 1) d else none
    | _, _ => none
  | .part j, .nils, g, its, nx, d, k => match lkS j g, List.lookup j its0 with
    | none, some (.sl c t sz _) => bif Nat.beq sz (shN cx c) && !memN nx (idsG g) then k ((0 : Int), (0 : Int)) ((j, nx) :: g) ((nx, .sl c t sz [] .nil) :: its) (nx + 1) d else none
    | _, _ => none
  | .part j, .part id lo hi, g, its, nx, d, k => bindId j id g fun g => k (lo, hi) g its nx d
  | .part j, .own id, g, its, nx, d, k => match lkI id its with
    | some (.sl _ _ _ xs _) => bindId j id g fun g => k (0, (xs.length : Int)) g its nx d
    | some (.arr _ _ N _) => bindId j id g fun g => k (0, (N : Int)) g its nx d
    | _ => none
  | .ptr j off, .ptr id off', g, its, nx, d, k => bif Nat.beq off' off then bindId j id g fun g => k () g its nx d else none
  | .aptr j, .aptr id, g, its, nx, d, k => bindId j id g fun g => k () g its nx d
  | .stc n, .agg vs, g, its, nx, d, k => ofS (cx.si n).cells vs its fun y its d' => k ((cx.si n).of y) g its nx (d' ++ d)
  | .arr i N, .arr i' N' xs, g, its, nx, d, k => if i' = i then bif Nat.beq N' N then k xs g its nx d else none else none
  | .agg l, .agg vs, g, its, nx, d, k => matchL cx its0 l vs g its nx d k
  | .tup l, .tup vs, g, its, nx, d, k => matchL cx its0 l vs g its nx d k
  | .fn f a b, .fn f' a' b', g, its, nx, d, k => bif Nat.beq f' f then matchL cx its0 a a' g its nx d fun x g its nx d => matchL cx its0 b b' g its nx d fun y g its nx d => k (x, y) g its nx d else none
  | .rof c, v, g, its, nx, d, k => asRo c v its fun xs z its d' => nzF z xs.length fun b => k (b, xs) g its nx (d' ++ d)
  | .intc i n, .int i' x, g, its, nx, d, k => if i' = i then (if x = n then k () g its nx d else none) else none
  | .blc b, .bl b', g, its, nx, d, k => if b' = b then k () g its nx d else none
  | .lits j n, .lits id n', g, its, nx, d, k => bif Nat.beq n' n then bindId j id g fun g => k () g its nx d else none
  | .yld j, .yld id, g, its, nx, d, k => bindId j id g fun g => k () g its nx d
  | _, _, _, _, _, _, _ => none
def matchL {β : Type} (cx : Cx S) (its0 : List (Nat × ShI)) : (l : List ShV) → List (AV S) → Sg → Its S → Nat → List Nat → (ShV.tyL S l → Sg → Its S → Nat → List Nat → Option β) → Option β
  | [], [], g, its, nx, d, k => k () g its nx d
  | s :: l, v :: vs, g, its, nx, d, k => matchV cx its0 s v g its nx d fun x g its nx d => matchL cx its0 l vs g its nx d fun y g its nx d => k (consL x y) g its nx d
  | _, _, _, _, _, _, _ => none
end
end
end Go.VX

/- VX, part b: what an operation yields, told by data. -/
namespace Go.VX
noncomputable section
set_option linter.unusedVariables false
open Go Go.SX
variable {S : Nat → Type}

def ofVal : Value → AV S
  | .int k x => .int k x
  | .bool b => .bl b
  | .string s => .str s
  | .pointer none => .nilp
  | .nilFunc => .nilf
  | .slice none 0 0 => .nils
  | _ => .any
def evA (env : Env S) : Operand → AV S
  | .tmp t => lkE t env
  | .const v => ofVal v
  | .global g => .glob g
  | .func f => .fn f [] []
/-- Values of one cell. -/
def flatA : AV S → Bool
  | .agg _ | .tup _ | .arr _ _ _ | .any => false
  | _ => true
def flatL : List (AV S) → Bool
  | [] => true
  | v :: l => bif flatA v then flatL l else false
def cellsA : AV S → List (AV S)
  | .agg cs => cs
  | v => [v]
def zeroA (cx : Cx S) (t : Nat) : Option (List (AV S)) :=
  match (cx.T t).known with
  | true => match (cx.T t).zero with
    | .agg cs => some (cs.toList.map ofVal)
    | v => some [ofVal v]
  | false => none
/-- The shapes of the cells of a type's data. -/
def shC (cx : Cx S) : TC → List ShV
  | .int k => [.int k]
  | .bool => [.bl]
  | .str => [.str]
  | .sl c => [.ro c]
  | .st n => (cx.si n).cells
def ofC (cx : Cx S) : (c : TC) → ShV.tyL S (shC cx c) → c.D S
  | .int _, x => x
  | .bool, x => x
  | .str, x => x
  | .sl _, x => x
  | .st n, x => (cx.si n).of x
def vwC (cx : Cx S) : (c : TC) → c.D S → List (AV S)
  | .int k, x => [.int k x]
  | .bool, x => [.bl x]
  | .str, x => [.str x]
  | .sl c, x => [.ro c x .unk]
  | .st n, x => mkS (cx.si n).cells ((cx.si n).to x)
/-- One part of cells: a value of this type. -/
def partA (cx : Cx S) {β : Type} (t : Nat) (cs : List (AV S)) (off : Nat) (k : AV S → Option β) : Option β :=
  match (cx.T t).known, (cx.T t).td.agg with
  | true, some true => match (cx.T t).td with
    | .strct _ => bif Nat.ble (off + (cx.T t).size) cs.length then k (.agg ((cs.drop off).take (cx.T t).size)) else none
    | _ => none
  | true, some false => match cs[off]? with
    | some v => k v
    | none => none
  | _, _ => none
def setA {β : Type} : List (AV S) → Nat → List (AV S) → (List (AV S) → Option β) → Option β
  | cs, _, [], k => k cs
  | c :: cs, n + 1, vs, k => setA cs n vs fun r => k (c :: r)
  | _ :: cs, 0, v :: vs, k => setA cs 0 vs fun r => k (v :: r)
  | [], _, _, _ => none
def boolA {β : Type} (v : AV S) (a b : Option β) : Option β :=
  match v with
  | .bl x => if x = true then a else b
  | .pr p i => @ite _ p i a b
  | _ => none
def toB {β : Type} (v : AV S) (k : Bool → Option β) : Option β :=
  match v with
  | .bl x => k x
  | .pr p i => k (@decide p i)
  | _ => none

/-! A value is worked out before it is put down: so terms stay small. -/
mutual
def forceV {β : Type} : AV S → (AV S → Option β) → Option β
  | .any, k => k .any
  | .nilp, k => k .nilp
  | .nilf, k => k .nilf
  | .nils, k => k .nils
  | .int i x, k => k (.int i x)
  | .bl b, k => k (.bl b)
  | .pr p i, k => k (.pr p i)
  | .str s, k => k (.str s)
  | .ro c xs z, k => k (.ro c xs z)
  | .own id, k => k (.own id)
  | .part id lo hi, k => k (.part id lo hi)
  | .ptr id off, k => k (.ptr id off)
  | .aptr id, k => k (.aptr id)
  | .eown id i off, k => k (.eown id i off)
  | .ero c x off, k => k (.ero c x off)
  | .lits id n, k => k (.lits id n)
  | .arr i N xs, k => k (.arr i N xs)
  | .agg cs, k => forceL cs fun cs => k (.agg cs)
  | .tup cs, k => forceL cs fun cs => k (.tup cs)
  | .fn f a b, k => forceL a fun a => forceL b fun b => k (.fn f a b)
  | .glob g, k => k (.glob g)
  | .yld id, k => k (.yld id)
def forceL {β : Type} : List (AV S) → (List (AV S) → Option β) → Option β
  | [], k => k []
  | v :: l, k => forceV v fun v => forceL l fun l => k (v :: l)
end
section
variable {β : Type} (cx : Cx S)
def intA (op : BinOp) (i : IntKind) (a b : Int) (k : AV S → Option β) : Option β :=
  match op with
  | .add => k (.int i (i.wrap (a + b)))
  | .sub => k (.int i (i.wrap (a - b)))
  | .mul => k (.int i (i.wrap (a * b)))
  | .quo => if b ≠ 0 then k (.int i (i.wrap (Int.tdiv a b))) else none
  | .rem => if b ≠ 0 then k (.int i (Int.tmod a b)) else none
  | .and => k (.int i (andI i a b))
  | .or => k (.int i (orI i a b))
  | .xor => k (.int i (xorI i a b))
  | .andNot => k (.int i (andNotI i a b))
  | .eql => k (.prop (a = b))
  | .neq => k (.prop (a ≠ b))
  | .lss => k (.prop (a < b))
  | .leq => k (.prop (a ≤ b))
  | .gtr => k (.prop (a > b))
  | .geq => k (.prop (a ≥ b))
  | _ => none
def nilA (op : BinOp) (is : Bool) (k : AV S → Option β) : Option β :=
  match op with
  | .eql => k (.bl is)
  | .neq => k (.bl (!is))
  | _ => none
def strA (op : BinOp) (a b : ByteArray) (k : AV S → Option β) : Option β :=
  match op with
  | .add => if a.size + b.size ≤ 9223372036854775807 then k (.str (a ++ b)) else none
  | .eql => k (.prop (a.toList = b.toList))
  | .neq => k (.prop (a.toList ≠ b.toList))
  | .lss => k (.bl (Op.bytesLess a.toList b.toList))
  | .leq => k (.bl (Op.bytesLess a.toList b.toList || a.toList == b.toList))
  | .gtr => k (.bl (!(Op.bytesLess a.toList b.toList || a.toList == b.toList)))
  | .geq => k (.bl (!(Op.bytesLess a.toList b.toList)))
  | _ => none
/-- A slice, held against nil. -/
def nilSl (op : BinOp) (z : Nz) (n : Nat) (k : AV S → Option β) : Option β :=
  match z with
  | .nil => nilA op true k
  | .non => nilA op false k
  | .unk => if n = 0 then none else nilA op false k
  | .fl b => nilA op b k
def binA (its : Its S) (op : BinOp) (t : Nat) (x y : AV S) (k : AV S → Option β) : Option β :=
  match y with
  | .int j b => match x with
    | .int i a => match op with
      | .shl => if 0 ≤ b then k (.int i (shlI i a b)) else none
      | .shr => if 0 ≤ b then k (.int i (shrI i a b)) else none
      | op => if i = j then intA op i a b k else none
    | _ => none
  | .str b => match x with
    | .str a => strA op a b k
    | _ => none
  | .nilp => match (cx.T t).known, (cx.T t).td, x with
    | true, .ptr _, .nilp => nilA op true k
    | true, .ptr _, .ptr _ _ => nilA op false k
    | true, .ptr _, .eown _ _ _ => nilA op false k
    | true, .ptr _, .ero _ _ _ => nilA op false k
    | true, .ptr _, .aptr _ => nilA op false k
    | _, _, _ => none
  | .nilf => match (cx.T t).known, (cx.T t).td, x with
    | true, .func, .nilf => nilA op true k
    | true, .func, .fn _ _ _ => nilA op false k
    | _, _, _ => none
  | .nils => match (cx.T t).known, (cx.T t).td, x with
    | true, .slice _, .nils => nilA op true k
    | true, .slice _, .ro _ xs z => nilSl op z xs.length k
    | true, .slice _, .own id => match lkI id its with
      | some (.sl _ _ _ xs z) => nilSl op z xs.length k
      | some (.ro _ xs z) => nilSl op z xs.length k
      | _ => none
    | _, _, _ => none
  | v => match (cx.T t).known, (cx.T t).td with
    | true, .bool => toB x fun a => toB v fun b => match op with
      | .eql => k (.prop (a = b))
      | .neq => k (.prop (a ≠ b))
      | _ => none
    | _, _ => none
def unA (op : UnOp) (x : AV S) (k : AV S → Option β) : Option β :=
  match op, x with
  | .neg, .int i a => k (.int i (i.wrap (0 - a)))
  | .xor, .int i a => k (.int i (cplI i a))
  | .not, .bl b => k (.prop (¬ b = true))
  | .not, .pr p _ => k (.prop (¬ p))
  | _, _ => none
/-- What a place holds. -/
def loadA (its : Its S) (t : Nat) (a : AV S) (k : AV S → List Nat → Option β) : Option β :=
  match a with
  | .ptr id off => match lkI id its with
    | some (.blk _ cs) => partA cx t cs off fun v => k v [id]
    | _ => none
  | .ero c x off => partA cx t (vwC cx c x) off fun v => k v []
  | .eown id i off => match lkI id its with
    | some (.sl c _ _ xs _) => (getI xs i).bind fun x => partA cx t (vwC cx c x) off fun v => k v [id]
    | some (.ro c xs _) => (getI xs i).bind fun x => partA cx t (vwC cx c x) off fun v => k v [id]
    | some (.arr j _ _ xs) => (getI xs i).bind fun x => partA cx t [.int j x] off fun v => k v [id]
    | _ => none
  | .aptr id => match lkI id its, (cx.T t).known, (cx.T t).td with
    | some (.arr i _ N xs), true, .arr N' _ => bif Nat.beq (cx.T t).size N then k (.arr i N xs) [id] else none
    | _, _, _ => none
  | _ => none
def isSl (T : Tb) (t : Nat) : Bool :=
  match (T t).known, (T t).td with
  | true, .slice _ => true
  | _, _ => false
def isStr (T : Tb) (t : Nat) : Bool :=
  match (T t).known, (T t).td with
  | true, .str => true
  | _, _ => false
def lenOf (its : Its S) (t : Nat) (x : AV S) (k : Int → List Nat → Option β) : Option β :=
  match x with
  | .str s => bif isStr cx.T t then k s.size [] else none
  | x => bif isSl cx.T t then match x with
  | .nils => k 0 []
  | .ro _ xs _ => k xs.length []
  | .own id => match lkI id its with
    | some (.sl _ _ _ xs _) => k xs.length [id]
    | some (.ro _ xs _) => k xs.length [id]
    | some (.arr _ _ N _) => k N [id]
    | _ => none
  | .part _ lo hi => k (hi - lo) []
  | .lits _ n => k n []
  | _ => none
  else none
def optA (env : Env S) : Option Operand → Option (AV S)
  | none => none
  | some o => some (evA env o)
/-- A part of a slice that is only read. -/
def cutRo (c : TC) (xs : List (c.D S)) (z : Nz) (lo hi mx : Option (AV S)) (rd : List Nat) (k : AV S → List Nat → Option β) : Option β :=
  match lo, hi, mx with
  | none, none, none => k (.ro c xs z) rd
  | none, some (.int _ h), none => (cutI xs 0 h).bind fun ys => k (.ro c ys z) rd
  | some (.int _ l), none, none => (cutI xs l xs.length).bind fun ys => k (.ro c ys z) rd
  | some (.int _ l), some (.int _ h), none => (cutI xs l h).bind fun ys => k (.ro c ys z) rd
  | none, some (.int _ h), some (.int _ m) => if h ≤ m ∧ m ≤ (xs.length : Int) then (cutI xs 0 h).bind fun ys => k (.ro c ys z) rd else none
  | some (.int _ l), some (.int _ h), some (.int _ m) => if h ≤ m ∧ m ≤ (xs.length : Int) then (cutI xs l h).bind fun ys => k (.ro c ys z) rd else none
  | _, _, _ => none
/-- A part of a slice of one's own: from l0 to h0 of it. -/
def cutOwn (id : Nat) (l0 h0 : Int) (v : AV S) (lo hi mx : Option (AV S)) (k : AV S → List Nat → Option β) : Option β :=
  match lo, hi, mx with
  | none, none, none => k v [id]
  | none, some (.int _ h), none => if 0 ≤ h ∧ h ≤ h0 - l0 then k (.part id l0 (l0 + h)) [id] else none
  | some (.int _ l), none, none => if 0 ≤ l ∧ l ≤ h0 - l0 then k (.part id (l0 + l) h0) [id] else none
  | some (.int _ l), some (.int _ h), none => if 0 ≤ l ∧ l ≤ h ∧ h ≤ h0 - l0 then k (.part id (l0 + l) (l0 + h)) [id] else none
  | _, _, _ => none
/-- The elements of a slice's type are known, and have so many cells. -/
def elOk (T : Tb) (t n : Nat) : Bool :=
  match (T t).known, (T t).td with
  | true, .slice e => (T e).known && Nat.beq (T e).size n
  | _, _ => false
def arOk (T : Tb) (t N n : Nat) : Bool :=
  match (T t).known, (T t).td with
  | true, .arr N' e => (T e).known && Nat.beq (T e).size n && Nat.beq N' N
  | _, _ => false
def slK (T : Tb) (t : Nat) : Bool :=
  match (T t).known, (T t).td with
  | true, .slice e => (T e).known
  | _, _ => false
def szOf (c : TC) : Nat := (shC cx c).length
def sliceA (its : Its S) (t : Nat) (x : AV S) (lo hi mx : Option (AV S)) (k : AV S → List Nat → Option β) : Option β :=
  match x with
  | .nils => bif slK cx.T t then match lo, hi, mx with
    | none, none, none => k .nils []
    | none, some (.int _ h), none => if h = 0 then k .nils [] else none
    | some (.int _ l), none, none => if l = 0 then k .nils [] else none
    | _, _, _ => none
    else none
  | .ro c xs z => bif elOk cx.T t (szOf cx c) then cutRo c xs z lo hi mx [] k else none
  | .own id => match lkI id its with
    | some (.sl c _ _ xs _) => bif elOk cx.T t (szOf cx c) then cutOwn id 0 xs.length x lo hi mx k else none
    | some (.ro c xs z) => bif elOk cx.T t (szOf cx c) then cutRo c xs z lo hi mx [id] k else none
    | some (.arr _ _ N _) => bif elOk cx.T t 1 then cutOwn id 0 N x lo hi mx k else none
    | _ => none
  | .part id l h => match lkI id its with
    | some (.sl c _ _ _ _) => bif elOk cx.T t (szOf cx c) then cutOwn id l h x lo hi mx k else none
    | some (.arr _ _ _ _) => bif elOk cx.T t 1 then cutOwn id l h x lo hi mx k else none
    | some (.ro c xs _) => bif elOk cx.T t (szOf cx c) then (cutI xs l h).bind fun ys => cutRo c ys .unk lo hi mx [id] k else none
    | _ => none
  | .aptr id => match lkI id its with
    | some (.arr _ _ N _) => bif arOk cx.T t N 1 then cutOwn id 0 N (.own id) lo hi mx k else none
    | _ => none
  | _ => none
def indexAddrA (its : Its S) (t : Nat) (x i : AV S) (k : AV S → List Nat → Option β) : Option β :=
  match i with
  | .int _ n => match x with
    | .ro c xs _ => bif elOk cx.T t (szOf cx c) then (getI xs n).bind fun y => k (.ero c y 0) [] else none
    | .own id => match lkI id its with
      | some (.sl c _ _ xs _) => bif elOk cx.T t (szOf cx c) then if 0 ≤ n ∧ n < (xs.length : Int) then k (.eown id n 0) [id] else none else none
      | some (.ro c xs _) => bif elOk cx.T t (szOf cx c) then (getI xs n).bind fun y => k (.ero c y 0) [id] else none
      | some (.arr _ _ N _) => bif elOk cx.T t 1 then if 0 ≤ n ∧ n < (N : Int) then k (.eown id n 0) [id] else none else none
      | _ => none
    | .part id lo hi => match lkI id its with
      | some (.sl c _ _ _ _) => bif elOk cx.T t (szOf cx c) then if 0 ≤ n ∧ n < hi - lo then k (.eown id (lo + n) 0) [id] else none else none
      | some (.arr _ _ _ _) => bif elOk cx.T t 1 then if 0 ≤ n ∧ n < hi - lo then k (.eown id (lo + n) 0) [id] else none else none
      | _ => none
    | .aptr id => match lkI id its with
      | some (.arr _ _ N _) => bif arOk cx.T t N 1 then if 0 ≤ n ∧ n < (N : Int) then k (.eown id n 0) [id] else none else none
      | _ => none
    | .glob g => match cx.gl g with
      | some (j, xs) => bif arOk cx.T t xs.length 1 then (getI xs n).bind fun y => k (.ero (.int j) y 0) [] else none
      | none => none
    | .lits id N => match lkI id its with
      | some (.blk _ cs) => bif elOk cx.T t (cs.length / N) then if 0 ≤ n ∧ n < (N : Int) then k (.ptr id (n.toNat * (cs.length / N))) [id] else none else none
      | _ => none
    | _ => none
  | _ => none
def addOff (off : Nat) (a : AV S) (k : AV S → Option β) : Option β :=
  match a with
  | .ptr id o => k (.ptr id (o + off))
  | .eown id i o => k (.eown id i (o + off))
  | .ero c x o => k (.ero c x (o + off))
  | _ => none
/-- Parts of a struct, put together. -/
def fillA (T : Tb) (fs : List (Nat × Nat)) : List (Nat × AV S) → List (AV S) → (List (AV S) → Option β) → Option β
  | [], cs, k => k cs
  | p :: r, cs, k => match fs[p.1]? with
    | some (off, ft) => match (T ft).known with
      | true => bif Nat.beq (cellsA p.2).length (T ft).size && Nat.ble (off + (T ft).size) cs.length && flatL (cellsA p.2) then setA cs off (cellsA p.2) fun cs' => fillA T fs r cs' k else none
      | false => none
    | none => none
def bytesA (its : Its S) (v : AV S) (k : List Int → List Nat → Option β) : Option β :=
  match v with
  | .nils => k [] []
  | .ro (.int .u8) xs _ => k xs []
  | .own id => match lkI id its with
    | some (.sl (.int .u8) _ _ xs _) => k xs [id]
    | some (.ro (.int .u8) xs _) => k xs [id]
    | _ => none
  | _ => none
/-- An operation that leaves the world alone: its value, and what of one's own it reads. -/
def stepP (env : Env S) (its : Its S) (o : Op) (k : AV S → List Nat → Option β) : Option β :=
  match o with
  | .move x | .assign x => k (evA env x) []
  | .pick c a b => boolA (evA env c) (k (evA env a) []) (k (evA env b) [])
  | .binOp op t x y _ => binA cx its op t (evA env x) (evA env y) fun v => k v (match evA env x with | .own id => [id] | _ => [])
  | .unOp op _ x => unA op (evA env x) fun v => k v []
  | .convert s d x => match (cx.T s).known, (cx.T s).td, (cx.T d).known, (cx.T d).td with
    | true, .int _, true, .int i => match evA env x with
      | .int _ n => k (.int i (i.wrap n)) []
      | _ => none
    | true, .slice e, true, .str => match (cx.T e).known, (cx.T e).td with
      | true, .int .u8 => bytesA its (evA env x) fun xs rd => k (.str (strOfNums xs)) rd
      | _, _ => none
    | _, _, _, _ => none
  | .nilCheck x => match evA env x with
    | .ptr id off => k (.ptr id off) []
    | .eown id i off => k (.eown id i off) []
    | .ero c x off => k (.ero c x off) []
    | .aptr id => k (.aptr id) []
    | _ => none
  | .fieldAddr t x f => match (cx.T t).known, (cx.T t).td with
    | true, .strct fs => match fs[f]? with
      | some (off, ft) => bif (cx.T ft).known && (cx.T ft).size != 0 then addOff off (evA env x) fun v => k v [] else none
      | none => none
    | _, _ => none
  | .field t x f => match (cx.T t).known, (cx.T t).td, evA env x with
    | true, .strct fs, .agg cs => match fs[f]? with
      | some (off, ft) => partA cx ft cs off fun v => k v []
      | none => none
    | _, _, _ => none
  | .extract x i => match evA env x with
    | .tup vs => match vs[i]? with
      | some v => k v []
      | none => none
    | _ => none
  | .makeFunc (.func f) first captured => k (.fn f (first.toList.map (evA env)) (captured.toList.map (evA env))) []
  | .load t a => loadA cx its t (evA env a) k
  | .index t x i => match (cx.T t).known, (cx.T t).td, evA env x, evA env i with
    | true, .str, .str s, .int _ n => if 0 ≤ n ∧ n < (s.size : Int) then k (.int .u8 (byteAt s n)) [] else none
    | _, _, _, _ => none
  | .indexAddr t x i => indexAddrA cx its t (evA env x) (evA env i) k
  | .slice t x lo hi mx => sliceA cx its t (evA env x) (optA env lo) (optA env hi) (optA env mx) k
  | .build t parts => match (cx.T t).known, (cx.T t).td with
    | true, .strct fs => match zeroA cx t with
      | some z => bif fs.all (fun f => (cx.T f.2).known) then fillA cx.T fs (parts.toList.map fun p => (p.1, evA env p.2)) z fun cs => k (.agg cs) [] else none
      | none => none
    | _, _ => none
  | .call ⟨.builtin .len, ⟨[x]⟩, ⟨[t]⟩⟩ => lenOf cx its t (evA env x) fun n rd => k (.int .i64 n) rd
  | .call ⟨.builtin .min, ⟨[x, y]⟩, _⟩ => match evA env x, evA env y with
    | .int i a, .int j b => if i = j then k (.int i (if b < a then b else a)) [] else none
    | _, _ => none
  | .call ⟨.builtin .max, ⟨[x, y]⟩, _⟩ => match evA env x, evA env y with
    | .int i a, .int j b => if i = j then k (.int i (if b > a then b else a)) [] else none
    | _, _ => none
  | _ => none
end
end
end Go.VX

/- VX, part c: operations that make or change what is one's own; calls; a function's code. -/
namespace Go.VX
noncomputable section
set_option linter.unusedVariables false
open Go Go.SX
variable {S : Nat → Type}

/-! ### Contracts -/
def Alt (S : Nat → Type) : List (ShV × List (Nat × ShI)) → Type
  | [] => Empty
  | [s] => P2 (s.1.ty S) S s.2
  | s :: l => P2 (s.1.ty S) S s.2 ⊕ Alt S l
/-- What is told of a function: the shapes of its arguments and of its results, and what it computes. -/
structure Deal (S : Nat → Type) where
  f : Nat
  args : List ShV
  its : List (Nat × ShI)
  na : Nat     -- what is handed in has the numbers below
  nr : Nat     -- and all that is told of at the end those below
  res : List (ShV × List (Nat × ShI))
  g : P2 (ShV.tyL S args) S its → Option (Alt S res)

def matchI {β : Type} (cx : Cx S) (its0 : List (Nat × ShI)) (s : ShI) (it : AI S) (g : Sg) (its : Its S) (nx : Nat) (d : List Nat) (k : s.ty S → Sg → Its S → Nat → List Nat → Option β) : Option β :=
  match s, it with
  | .blk t l, .blk t' cs => bif Nat.beq t' t then matchL cx its0 l cs g its nx d k else none
  | .sl c t sz z, .sl c' t' sz' xs z' => bif Nat.beq t' t && Nat.beq sz' sz && nzLe z' z then (if h : c' = c then k (h ▸ xs) g its nx d else none) else none
  | .ro c z, .ro c' xs z' => bif nzLe z' z then (if h : c' = c then k (h ▸ xs) g its nx d else none) else none
  | .arr i t N, .arr i' t' N' xs => bif Nat.beq t' t && Nat.beq N' N then (if i' = i then k xs g its nx d else none) else none
  | _, _ => none
def matchIs {β : Type} (cx : Cx S) (its0 : List (Nat × ShI)) : (l : List (Nat × ShI)) → Sg → Its S → Nat → List Nat → (tyI S l → Sg → Its S → Nat → List Nat → Option β) → Option β
  | [], g, its, nx, d, k => k () g its nx d
  | s :: l, g, its, nx, d, k => match lkS s.1 g with
    | some id => match lkI id its with
      | some it => matchI cx its0 s.2 it g its nx d fun x g its nx d => matchIs cx its0 l g its nx d fun y g its nx d => k (Tup.cons x y) g its nx d
      | none => none
    | none => none
def matchE {β : Type} (cx : Cx S) (its0 : List (Nat × ShI)) (env : Env S) : (l : List (Nat × ShV)) → Sg → Its S → Nat → List Nat → (tyE S l → Sg → Its S → Nat → List Nat → Option β) → Option β
  | [], g, its, nx, d, k => k () g its nx d
  | s :: l, g, its, nx, d, k => matchV cx its0 s.2 (lkE s.1 env) g its nx d fun x g its nx d => matchE cx its0 env l g its nx d fun y g its nx d => k (Tup.cons x y) g its nx d
/-- What was matched is still of its kind. -/
def kindOk : ShI → AI S → Bool
  | .blk _ _, .blk _ _ => true
  | .sl _ t sz _, .sl _ t' sz' _ _ => Nat.beq t' t && Nat.beq sz' sz
  | .ro _ _, .ro _ _ _ => true
  | .arr _ _ _, .arr _ _ _ _ => true
  | _, _ => false
def kindsA (g : Sg) (its : Its S) : List (Nat × ShI) → Bool
  | [] => true
  | s :: l => match lkS s.1 g with
    | some id => match lkI id its with
      | some it => kindOk s.2 it && kindsA g its l
      | none => false
    | none => false
/-- All numbers are below nx; none comes twice. -/
def domG (nx : Nat) : Sg → Bool
  | [] => true
  | p :: r => Nat.blt p.1 nx && domG nx r
def nodupI : List (Nat × ShI) → Bool
  | [] => true
  | s :: l => !memN s.1 (l.map (·.1)) && nodupI l
/-- The numbers of what was handed in stay. -/
def idg : Nat → Sg
  | 0 => []
  | n + 1 => (n, n) :: idg n
/-- A state in this shape. -/
def coerce {β : Type} (cx : Cx S) (na : Nat) (s : Sh) (env : Env S) (its : Its S) (nx : Nat) (k : s.ty S → Option β) : Option β :=
  matchE cx s.its env s.env (idg na) its nx [] fun x g its nx d => matchIs cx s.its s.its g its nx d fun y g its _ _ => bif kindsA g its s.its && domG s.nx g && nodupI s.its then k (P2.mk x y) else none
/-- Might a value be of this shape? -/
def fitV : ShV → AV S → Bool
  | .any, _ => true
  | .nilp, .nilp => true
  | .nilf, .nilf => true
  | .nils, .nils => true
  | .int _, .int _ _ => true
  | .bl, .bl _ => true
  | .bl, .pr _ _ => true
  | .str, .str _ => true
  | .ro _, .ro _ _ _ => true
  | .ro _, .own _ => true
  | .ro _, .part _ _ _ => true
  | .ro _, .nils => true
  | .roz _ _, .ro _ _ _ => true
  | .roz _ _, .own _ => true
  | .roz _ _, .nils => true
  | .own _, .own _ => true
  | .own _, .nils => true
  | .own _, .ro _ _ .nil => true
  | .part _, .part _ _ _ => true
  | .part _, .own _ => true
  | .ptr _ _, .ptr _ _ => true
  | .aptr _, .aptr _ => true
  | .stc _, .agg _ => true
  | .arr _ _, .arr _ _ _ => true
  | .agg _, .agg _ => true
  | .tup [], .tup [] => true
  | .tup [a], .tup [x] => fitV a x
  | .tup [a, b], .tup [x, y] => fitV a x && fitV b y
  | .tup [a, b, c], .tup [x, y, z] => fitV a x && (fitV b y && fitV c z)
  | .fn f _ _, .fn f' _ _ => Nat.beq f' f
  | .rof _, .ro _ _ _ => true
  | .rof _, .own _ => true
  | .rof _, .part _ _ _ => true
  | .rof _, .nils => true
  | .yld _, .yld _ => true
  | .intc _ _, .int _ _ => true
  | .blc _, .bl _ => true
  | .lits _ _, .lits _ _ => true
  | .part _, .nils => true
  | _, _ => false
def fitL : List ShV → List (AV S) → Bool
  | [], [] => true
  | s :: l, v :: vs => fitV s v && fitL l vs
  | _, _ => false

/-- Results that may be of several shapes. -/
def altA {β : Type} (cx : Cx S) (f : Nat → Nat) : (l : List (ShV × List (Nat × ShI))) → Alt S l → (AV S → Its S → Option β) → Option β
  | [], x, _ => nomatch x
  | [s], x, k => k (mkV cx f s.1 (P2.a x)) (mkIs cx f s.2 (P2.b x))
  | s :: t :: l, x, k => match x with
    | .inl y => k (mkV cx f s.1 (P2.a y)) (mkIs cx f s.2 (P2.b y))
    | .inr y => altA cx f (t :: l) y k
/-- Which of the items that were handed in stand in these cells? -/
def fitPL (g0 : Sg) : List ShV → List (AV S) → Bool
  | .ptr j _ :: l, .ptr id _ :: vs => (match List.lookup j g0 with | some i => Nat.beq i id | none => !(g0.any fun p => Nat.beq p.2 id)) && fitPL g0 l vs
  | .own j :: l, .own id :: vs => (match List.lookup j g0 with | some i => Nat.beq i id | none => !(g0.any fun p => Nat.beq p.2 id)) && fitPL g0 l vs
  | .ptr _ _ :: _, .nilp :: _ => false
  | .nilp :: _, .ptr _ _ :: _ => false
  | _ :: l, _ :: vs => fitPL g0 l vs
  | _, _ => true
def fitG (g0 : Sg) (its : Its S) : List (Nat × ShI) → Bool
  | [] => true
  | (j, .blk _ l) :: r => (match List.lookup j g0 with
    | some i => (match lkI i its with
      | some (.blk _ cs) => fitPL g0 l cs
      | _ => true)
    | none => true) && fitG g0 its r
  | _ :: r => fitG g0 its r
/-- A function's result, in one of its shapes; the numbers below na are those of what was handed in. -/
def retA (cx : Cx S) (nr : Nat) (g0 : Sg) : (l : List (ShV × List (Nat × ShI))) → AV S → Its S → Nat → Option (Alt S l)
  | [], _, _, _ => none
  | [s], v, its, nx => matchV cx s.2 s.1 v g0 its nx [] fun x g its nx d => matchIs cx s.2 s.2 g its nx d fun y g its _ _ => bif kindsA g its s.2 && domG nr g && nodupI s.2 then some (P2.mk x y) else none
  | s :: t :: l, v, its, nx => bif fitV s.1 v && fitG g0 its s.2 then matchV cx s.2 s.1 v g0 its nx [] fun x g its nx d => matchIs cx s.2 s.2 g its nx d fun y g its _ _ => bif kindsA g its s.2 && domG nr g && nodupI s.2 then some (.inl (P2.mk x y)) else none
    else (retA cx nr g0 (t :: l) v its nx).map .inr
mutual
def hasRo : ShV → Bool
  | .ro _ | .roz _ _ | .stc _ | .rof _ => true
  | .agg l | .tup l => hasRoL l
  | .fn _ a b => hasRoL a || hasRoL b
  | _ => false
def hasRoL : List ShV → Bool
  | [] => false
  | s :: l => hasRo s || hasRoL l
end
def hasRoI : List (Nat × ShI) → Bool
  | [] => false
  | (_, .blk _ l) :: r => hasRoL l || hasRoI r
  | (_, .ro _ _) :: r => true
  | (_, .sl c _ _ _) :: r => (match c with | .int _ | .bool | .str => false | _ => true) || hasRoI r
  | (_, .arr _ _ _) :: r => hasRoI r
def hasRoA : List (ShV × List (Nat × ShI)) → Bool
  | [] => false
  | s :: l => hasRo s.1 || hasRoI s.2 || hasRoA l
/-- What was handed in is no longer at hand (unless the results tell of it). -/
def dropG {β : Type} : Sg → Its S → (Its S → Option β) → Option β
  | [], its, k => k its
  | p :: r, its, k => delI p.2 its fun its => dropG r its k
def rename (g : Sg) (na nx : Nat) (j : Nat) : Nat :=
  bif Nat.blt j na then (match lkS j g with | some id => id | none => 0) else nx + j
def keysI : Its S → List Nat
  | [] => []
  | p :: r => p.1 :: keysI r
/-- It was given away, or is new. -/
def chg : Option (AI S) → Option (AI S) → Bool
  | some (.sl _ _ _ _ _), some (.ro _ _ _) => true
  | none, some _ => true
  | _, _ => false
/-- What was given away or lent on the way. -/
def gaveA (its its1 : Its S) : List (Nat × AI S) → List Nat
  | [] => []
  | p :: r => bif chg (lkI p.1 its) (lkI p.1 its1) then p.1 :: gaveA its its1 r else gaveA its its1 r
/-- What was lent comes back. -/
def backA {β : Type} (its0 its1 : Its S) : List (Nat × AI S) → Its S → (Its S → Option β) → Option β
  | [], its, k => k its
  | p :: r, its, k => bif chg (lkI p.1 its0) (lkI p.1 its1) then match lkI p.1 its0 with
      | some x => updI p.1 x its fun its => backA its0 its1 r its k
      | none => backA its0 its1 r its k
    else backA its0 its1 r its k
/-- All numbers below n stand for something. -/
def boundA (g : Sg) : Nat → Bool
  | 0 => true
  | n + 1 => (lkS n g).isSome && boundA g n
def nodupS : Sg → Bool
  | [] => true
  | p :: r => !memN p.1 (r.map (·.1)) && nodupS r
/-- All that was matched is told of. -/
def coverA (l : List (Nat × ShI)) : Sg → Bool
  | [] => true
  | p :: r => memN p.1 (l.map (·.1)) && coverA l r
/-- What was only looked at is only read, or was matched; nothing new is left over. -/
def readOk (g : Sg) (its1 : Its S) : List Nat → Bool
  | [] => true
  | id :: r => (memN id (idsG g) || (match lkI id its1 with | some (.ro _ _ _) => true | _ => false)) && readOk g its1 r
def pushOk (g : Sg) (its : Its S) : Its S → Bool
  | [] => true
  | p :: r => ((lkI p.1 its).isSome || memN p.1 (idsG g)) && pushOk g its r
def resOk (nr : Nat) : List (ShV × List (Nat × ShI)) → Bool
  | [] => true
  | s :: l => (s.2.all fun p => Nat.blt p.1 nr) && resOk nr l
def callOk (s : Deal S) (g : Sg) (its its1 : Its S) (d : List Nat) : Bool :=
  readOk g its1 d && pushOk g its its1 && kindsA g its1 s.its && nodupI s.its && domG s.na g && boundA g s.na && nodupS g && coverA s.its g && (Nat.ble s.na s.nr && Nat.blt 0 s.nr && resOk s.nr s.res)
/-- What a function hands to yield, one behind the other; with each what one's own is like if it ends there. -/
inductive Tr (A D : Type) where
  | done (d : D)
  | yield (a : A) (stop : D) (next : Tr A D)
def iterT {A D X β : Type} (Bd : D → X → Option β) (Bs : A → D → (X → Option β) → X → Option β) : Tr A D → X → Option β
  | .done d => Bd d
  | .yield a s n => Bs a s (iterT Bd Bs n)
/-- What is told of a function that is ranged over. -/
structure Seq (S : Nat → Type) where
  f : Nat
  nf : Nat
  args : List ShV
  its : List (Nat × ShI)
  na : Nat
  el : List ShV
  rits : List (Nat × ShI)
  g : P2 (ShV.tyL S args) S its → Option (Tr (ShV.tyL S el) (tyI S rits))
abbrev Seq.T (q : Seq S) : Type := Tr (ShV.tyL S q.el) (tyI S q.rits)
def Seq.deal (q : Seq S) : Deal S := { f := q.f, args := q.args, its := q.its, na := q.na, nr := q.na + 1, res := [], g := fun _ => none }
/-- What yield is. -/
structure YH (S : Nat → Type) (β : Type) where
  id : Nat
  el : List ShV
  cons : ShV.tyL S el → Option β → Option β → Option β
def YH.no {β : Type} : YH S β := ⟨0, [], fun _ _ _ => none⟩
/-- Something is handed to yield: what comes if that says false, what if it says true. -/
def consT {A D : Type} (a : A) (f t : Option (Tr A D)) : Option (Tr A D) :=
  match f with
  | some (.done d) => match t with
    | some n => some (.yield a d n)
    | none => none
  | _ => none
def Seq.y (q : Seq S) : YH S q.T := ⟨q.na, q.el, fun a f t => consT a f t⟩
/-- A part of what is one's own, told anew; the numbers below n stay. -/
def reA {β : Type} (cx : Cx S) (lits : List (Nat × ShI)) (n0 n : Nat) (its : Its S) (nx : Nat) (k : tyI S lits → Option β) : Option β :=
  matchV cx lits .any .any (idg n0) its nx [] fun x g' its nx d => matchIs cx lits lits g' its nx d fun y g' its _ _ => bif kindsA g' its lits && domG n g' && nodupI lits then k y else none
def eqG : Sg → Sg → Bool
  | [], [] => true
  | p :: g, q :: h => Nat.beq p.1 q.1 && Nat.beq p.2 q.2 && eqG g h
  | _, _ => false
def fG (rb : Sg) (j : Nat) : Nat := match lkS j rb with | some id => id | none => 0
def nodupN : List Nat → Bool
  | [] => true
  | x :: l => !memN x l && nodupN l
/-- What comes back has numbers of its own. -/
def backOk (rits : List (Nat × ShI)) (rb : Sg) (lits : List (Nat × ShI)) (n : Nat) : Bool :=
  nodupN (rits.map fun p => fG rb p.1) && (rits.all fun p => !memN (fG rb p.1) (lits.map (·.1)) && Nat.blt (fG rb p.1) n) && (rb.all fun p => Nat.blt p.2 n)
def freeG (rits : List (Nat × ShI)) (rb : Sg) (its : Its S) : Bool := rits.all fun p => (lkI (fG rb p.1) its).isNone
def bindP : List Tmp → List (AV S) → Env S → Env S
  | t :: ts, v :: vs, env => bindP ts vs ((t, v) :: env)
  | _, _, env => env
mutual
/-- All numbers in a value are below this one. -/
def belowV (n : Nat) : AV S → Bool
  | .own id | .part id _ _ | .ptr id _ | .aptr id | .eown id _ _ | .lits id _ | .yld id => Nat.blt id n
  | .agg l | .tup l => belowL n l
  | .fn _ a b => belowL n a && belowL n b
  | _ => true
def belowL (n : Nat) : List (AV S) → Bool
  | [] => true
  | a :: l => belowV n a && belowL n l
end
def belowE (n : Nat) : Env S → Bool
  | [] => true
  | p :: l => belowV n p.2 && belowE n l
def rangeA {β : Type} (cx : Cx S) (q : Seq S) (rb : Sg) (lits : List (Nat × ShI)) (g : Operand) (np n0 n : Nat) (env : Env S) (its : Its S) (nx : Nat) (L : q.T → tyI S lits → Option β) : Option β :=
  match evA env g with
  | .fn f first cap => bif Nat.beq f q.f && Nat.beq first.length q.nf && Nat.beq np q.el.length && belowE n0 env then
      matchL cx q.its q.args (first ++ cap) [] its nx [] fun x g its1 nx1 d => matchIs cx q.its q.its g its1 nx1 d fun y g its1 nx1 d =>
        bif callOk q.deal g its its1 d && eqG g rb && backOk q.rits rb lits n0 then (q.g (P2.mk x y)).bind fun tr => dropG g its1 fun its2 => reA cx lits n0 n its2 nx1 fun z => L tr z else none
    else none
  | _ => none
def callA {β : Type} (cx : Cx S) (s : Deal S) (args : List (AV S)) (its : Its S) (nx : Nat) (k : AV S → Its S → Nat → List Nat → List Nat → Option β) : Option β :=
  matchL cx s.its s.args args [] its nx [] fun x g its1 nx1 d => matchIs cx s.its s.its g its1 nx1 d fun y g its1 nx1 d =>
    bif callOk s g its its1 d then (s.g (P2.mk x y)).bind fun r => dropG g its1 fun its2 =>
      bif hasRoA s.res then altA cx (rename g s.na nx1) s.res r fun v new => k v (new ++ its2) (nx1 + s.nr) (idsG g ++ d) (idsG g ++ (gaveA its its1 its1 ++ keysI new))
      else backA its its1 its1 its2 fun its3 => altA cx (rename g s.na nx1) s.res r fun v new => k v (new ++ its3) (nx1 + s.nr) (idsG g ++ d) (idsG g ++ keysI new)
    else none

section
variable {β : Type} (cx : Cx S)
def makI {τ : Type} (n m : Int) (x : τ) (bytes : Nat) : Option (List τ) := if 0 ≤ n ∧ n ≤ m ∧ m * (bytes : Int) + m ≤ 140737488355328 then some (List.replicate n.toNat x) else none
def sameO : Operand → Operand → Bool
  | .tmp a, .tmp b => Nat.beq a b
  | .const (.int _ a), .const (.int _ b) => decide (a = b)
  | _, _ => false
/-- Elements that are read: of a slice, a part of one, bytes of a string. -/
def readA (c : TC) (v : AV S) (its : Its S) (k : List (c.D S) → List Nat → Option β) : Option β :=
  match v with
  | .nils => k [] []
  | .ro c' xs _ => if h : c' = c then k (h ▸ xs) [] else none
  | .own id => match lkI id its with
    | some (.sl c' _ _ xs _) => if h : c' = c then k (h ▸ xs) [id] else none
    | some (.ro c' xs _) => if h : c' = c then k (h ▸ xs) [id] else none
    | _ => none
  | .part id lo hi => match lkI id its with
    | some (.sl c' _ _ xs _) => if h : c' = c then (cutI (h ▸ xs) lo hi).bind fun ys => k ys [id] else none
    | some (.ro c' xs _) => if h : c' = c then (cutI (h ▸ xs) lo hi).bind fun ys => k ys [id] else none
    | _ => none
  | _ => none
/-- The elements of a slice that is written out. -/
def partsC (tc : TC) : List (Nat × AV S) → Nat → Its S → (List (tc.D S) → Its S → List Nat → Option β) → Option β
  | [], _, its, k => k [] its []
  | p :: r, i, its, k => bif Nat.beq p.1 i && flatL (cellsA p.2) && Nat.beq (cellsA p.2).length (szOf cx tc) then
      ofS (shC cx tc) (cellsA p.2) its fun y its d => partsC tc r (i + 1) its fun xs its d' => k (ofC cx tc y :: xs) its (d ++ d')
    else none
def partsL (sz : Nat) : List (Nat × AV S) → Nat → (List (AV S) → Option β) → Option β
  | [], _, k => k []
  | p :: r, i, k => forceL (cellsA p.2) fun cs => bif Nat.beq p.1 i && flatL cs && Nat.beq cs.length sz then partsL sz r (i + 1) fun cs' => k (cs ++ cs') else none
/-- So many numbers 0. -/
def zeroL (i : IntKind) : Nat → List Value → Bool
  | 0, [] => true
  | n + 1, .int i' x :: l => (if i' = i then (if x = 0 then zeroL i n l else false) else false)
  | _, _ => false
def zeroV (i : IntKind) (n : Nat) : Value → Bool
  | .agg cs => zeroL i n cs.toList
  | _ => false
def newA (e : Nat) (cs : List (AV S)) (its : Its S) (nx : Nat) (k : AV S → Its S → Nat → List Nat → List Nat → Option β) : Option β :=
  forceL cs fun cs => bif flatL cs then k (.ptr nx 0) ((nx, .blk e cs) :: its) (nx + 1) [] [nx] else none
def allocA (e : Nat) (its : Its S) (nx : Nat) (k : AV S → Its S → Nat → List Nat → List Nat → Option β) : Option β :=
  match (cx.T e).known, (cx.T e).td with
    | true, .arr N ie => match (cx.T ie).known, (cx.T ie).td with
      | true, .int i => bif zeroV i N (cx.T e).zero && Nat.ble N 9223372036854775807 then k (.aptr nx) ((nx, .arr i e N (List.replicate N 0)) :: its) (nx + 1) [] [nx] else none
      | _, _ => none
    | true, _ => match zeroA cx e with
      | some cs => newA e cs its nx k
      | none => none
    | _, _ => none
def boxA (e : Nat) (v : AV S) (its : Its S) (nx : Nat) (k : AV S → Its S → Nat → List Nat → List Nat → Option β) : Option β :=
  match v with
  | .arr i N xs => bif Nat.ble N 9223372036854775807 then k (.aptr nx) ((nx, .arr i e N xs) :: its) (nx + 1) [] [nx] else none
  | v => newA e (cellsA v) its nx k
/-- An element is put down. -/
def putEl (id : Nat) (i : Int) (c : TC) (cs : List (AV S)) (its : Its S) (nx : Nat) (k : AV S → Its S → Nat → List Nat → List Nat → Option β) : Option β :=
  bif flatL cs then ofS (shC cx c) cs its fun y its1 d => match lkI id its1 with
    | some (.sl c' bt sz xs z) => if h : c' = c then (setI (h ▸ xs) i (ofC cx c y)).bind fun ys => updI id (.sl c bt sz ys z) its1 fun its' => k .any its' nx (id :: d) (id :: gaveA its its1 its1) else none
    | _ => none
  else none
def storeA (t : Nat) (a v : AV S) (its : Its S) (nx : Nat) (k : AV S → Its S → Nat → List Nat → List Nat → Option β) : Option β :=
  match (cx.T t).known with
  | true => match a with
    | .ptr id off => match lkI id its with
      | some (.blk bt cs) => forceL (cellsA v) fun vs => bif flatL vs && Nat.beq vs.length (cx.T t).size && Nat.blt 0 vs.length then
          setA cs off vs fun cs' => updI id (.blk bt cs') its fun its' => k .any its' nx [id] [id]
        else none
      | _ => none
    | .eown id i off => match lkI id its with
      | some (.sl c _ sz xs _) => bif Nat.beq (cellsA v).length (cx.T t).size && Nat.blt 0 (cx.T t).size then
          bif Nat.beq off 0 && Nat.beq (cx.T t).size sz then putEl cx id i c (cellsA v) its nx k
          else (getI xs i).bind fun x0 => bif flatL (cellsA v) then setA (vwC cx c x0) off (cellsA v) fun cs => putEl cx id i c cs its nx k else none
        else none
      | some (.arr j bt N xs) => match v with
        | .int j' n => bif Nat.beq (cx.T t).size 1 && Nat.beq off 0 then if j' = j then (setI xs i n).bind fun ys => updI id (.arr j bt N ys) its fun its' => k .any its' nx [id] [id] else none else none
        | _ => none
      | _ => none
    | .aptr id => match lkI id its, v with
      | some (.arr j bt N _), .arr j' N' xs => bif Nat.beq N' N && Nat.beq (cx.T t).size N then if j' = j then updI id (.arr j bt N xs) its fun its' => k .any its' nx [id] [id] else none else none
      | _, _ => none
    | _ => none
  | false => none
def sizes (cx : Cx S) (e : Nat) (tc : TC) : Bool := (cx.T e).known && Nat.beq (cx.T e).size (szOf cx tc) && Nat.blt 0 (szOf cx tc) && Nat.beq (cx.T e).zero.cells.size (szOf cx tc)
def makeA (t : Nat) (same : Bool) (l c : AV S) (its : Its S) (nx : Nat) (k : AV S → Its S → Nat → List Nat → List Nat → Option β) : Option β :=
  match (cx.T t).known, (cx.T t).td, l, c with
  | true, .slice e, .int _ n, .int _ m => match cx.tc e, zeroA cx e with
    | some tc, some zs => bif sizes cx e tc && Nat.beq (cx.T e).size 1 && flatL zs && (cx.T e).zero.oneCell' then
        ofS (shC cx tc) zs its fun y its1 d => bif same then (repI m (ofC cx tc y) (cx.T e).bytes).bind fun xs => k (.own nx) ((nx, .sl tc e 1 xs .non) :: its1) (nx + 1) d (nx :: gaveA its its1 its1)
          else (makI n m (ofC cx tc y) (cx.T e).bytes).bind fun xs => k (.own nx) ((nx, .sl tc e 1 xs .non) :: its1) (nx + 1) d (nx :: gaveA its its1 its1)
      else none
    | _, _ => none
  | _, _, _, _ => none
def buildA (t n : Nat) (ps : List (Nat × AV S)) (its : Its S) (nx : Nat) (k : AV S → Its S → Nat → List Nat → List Nat → Option β) : Option β :=
  match (cx.T t).known, (cx.T t).td with
  | true, .slice e => bif Nat.beq ps.length n && Nat.ble (n * (cx.T e).size) 16777216 then match cx.tc e with
    | some tc => bif sizes cx e tc then partsC cx tc ps 0 its fun xs its1 d => k (.own nx) ((nx, .sl tc e (szOf cx tc) xs .non) :: its1) (nx + 1) d (nx :: gaveA its its1 its1) else none
    | none => bif (cx.T e).known && Nat.beq (cx.T e).zero.cells.size (cx.T e).size then partsL (cx.T e).size ps 0 fun cs => forceL cs fun cs => k (.lits nx n) ((nx, .blk e cs) :: its) (nx + 1) [] [nx] else none
    else none
  | _, _ => none
/-- What is appended to. -/
def appTo {tc : TC} (e sz bytes : Nat) (s : AV S) (ys : List (tc.D S)) (rd : List Nat) (its : Its S) (nx : Nat) (k : AV S → Its S → Nat → List Nat → List Nat → Option β) : Option β :=
  match s with
  | .nils => (appI [] ys bytes).bind fun zs => k (.own nx) ((nx, .sl tc e sz zs .unk) :: its) (nx + 1) rd [nx]
  | .own id => match lkI id its with
    | some (.sl c e' sz' xs _) => if h : c = tc then bif Nat.beq e' e && Nat.beq sz' sz then (appI (h ▸ xs) ys bytes).bind fun zs => delI id its fun its' => k (.own nx) ((nx, .sl tc e sz zs .unk) :: its') (nx + 1) (id :: rd) [id, nx] else none else none
    | _ => none
  | .part id lo hi => match lkI id its with
    | some (.sl c e' sz' xs _) => if h : c = tc then bif Nat.beq e' e && Nat.beq sz' sz then if lo = 0 then (cutI (h ▸ xs) 0 hi).bind fun vs => (appI vs ys bytes).bind fun zs => delI id its fun its' => k (.own nx) ((nx, .sl tc e sz zs .unk) :: its') (nx + 1) (id :: rd) [id, nx] else none else none else none
    | _ => none
  | _ => none
def appendA (t : Nat) (s x : AV S) (its : Its S) (nx : Nat) (k : AV S → Its S → Nat → List Nat → List Nat → Option β) : Option β :=
  match (cx.T t).known, (cx.T t).td with
  | true, .slice e => match cx.tc e with
    | some tc => bif sizes cx e tc then readA tc x its fun ys rd => appTo e (szOf cx tc) (cx.T e).bytes s ys rd its nx k else none
    | none => none
  | _, _ => none
def zeroI (i : IntKind) : Value → Bool
  | .int i' x => if i' = i then (if x = 0 then true else false) else false
  | _ => false
/-- Noughts are appended. -/
def appZTo (i : IntKind) (e bytes : Nat) (s : AV S) (m : Int) (its : Its S) (nx : Nat) (k : AV S → Its S → Nat → List Nat → List Nat → Option β) : Option β :=
  match s with
  | .nils => (appZI (τ := Int) [] m 0 bytes).bind fun zs => k (.own nx) ((nx, .sl (.int i) e 1 zs .unk) :: its) (nx + 1) [] [nx]
  | .own id => match lkI id its with
    | some (.sl (.int i') e' sz' xs _) => if i' = i then bif Nat.beq e' e && Nat.beq sz' 1 then (appZI (τ := Int) xs m 0 bytes).bind fun zs => delI id its fun its' => k (.own nx) ((nx, .sl (.int i) e 1 zs .unk) :: its') (nx + 1) [id] [id, nx] else none else none
    | _ => none
  | _ => none
def appZA (t t' : Nat) (s x : AV S) (its : Its S) (nx : Nat) (k : AV S → Its S → Nat → List Nat → List Nat → Option β) : Option β :=
  match (cx.T t).known, (cx.T t).td, (cx.T t').known, (cx.T t').td, x with
  | true, .slice e, true, .int _, .int _ m => match cx.tc e with
    | some (.int i) => bif sizes cx e (.int i) && zeroI i (cx.T e).zero then appZTo i e (cx.T e).bytes s m its nx k else none
    | _ => none
  | _, _, _, _, _ => none
/-- Bytes that a text was laid as. -/
def markA (t : Nat) (x : AV S) (its : Its S) (nx : Nat) (k : AV S → Its S → Nat → List Nat → List Nat → Option β) : Option β :=
  match (cx.T t).known, (cx.T t).td with
  | true, .slice e => match (cx.T e).known, (cx.T e).td with
    | true, .int .u8 => match x with
      | .own id => match lkI id its with
        | some (.sl (.int .u8) e' sz xs .non) => bif Nat.beq e' e && Nat.beq sz 1 then delI id its fun its' => k (.ro (.int .u8) xs .non) its' nx [id] [id] else none
        | _ => none
      | _ => none
    | _, _ => none
  | _, _ => none
/-- It is not nil. -/
def nnA (z : Nz) (n : Nat) (k : Option β) : Option β :=
  match z with
  | .non => k
  | _ => if 0 < n then k else none
def copyTo {tc : TC} (id : Nat) (lo hi : Int) (ys : List (tc.D S)) (rd : List Nat) (its : Its S) (nx : Nat) (k : AV S → Its S → Nat → List Nat → List Nat → Option β) : Option β :=
  match lkI id its with
  | some (.sl c bt sz xs z) => if h : c = tc then nnA z xs.length <| updI id (.sl tc bt sz (copyI (h ▸ xs) lo hi ys) z) its fun its' => k (.int .i64 (if (ys.length : Int) < hi - lo then (ys.length : Int) else hi - lo)) its' nx (id :: rd) [id] else none
  | _ => none
def copyA (t : Nat) (d x : AV S) (its : Its S) (nx : Nat) (k : AV S → Its S → Nat → List Nat → List Nat → Option β) : Option β :=
  match (cx.T t).known, (cx.T t).td with
  | true, .slice e => match cx.tc e with
    | some tc => bif sizes cx e tc && Nat.beq (cx.T e).size 1 then readA tc x its fun ys rd => match d with
        | .own id => match lkI id its with
          | some (.sl _ _ _ xs _) => copyTo id 0 xs.length ys rd its nx k
          | _ => none
        | .part id lo hi => copyTo id lo hi ys rd its nx k
        | _ => none
      else none
    | none => none
  | _, _ => none
def ofStrA (s d : Nat) (v : AV S) (its : Its S) (nx : Nat) (k : AV S → Its S → Nat → List Nat → List Nat → Option β) : Option β :=
  match (cx.T s).known, (cx.T s).td, (cx.T d).known, (cx.T d).td, v with
  | true, .str, true, .slice e, .str b => match (cx.T e).known, (cx.T e).td with
    | true, .int .u8 => if (numsOf b).length ≤ 9223372036854775807 then k (.ro (.int .u8) (numsOf b) .non) its nx [] [] else none
    | _, _ => none
  | _, _, _, _, _ => none
/-- Bytes, compared by a function without text. -/
def cmpA : List (AV S) → (AV S → Option β) → Option β
  | [.ro (.int .u8) xs _, .ro (.int .u8) ys _], k => k (.int .i64 (cmpB xs ys))
  | _, _ => none
def fitBL (f : ShV → AV S → Bool) : List ShV → List (AV S) → Bool
  | s :: l, v :: vs => f s v && fitBL f l vs
  | _, _ => true
/-- Which of the pointers are nil. -/
def fitB (its : Its S) (its0 : List (Nat × ShI)) : Nat → ShV → AV S → Bool
  | n + 1, s, v => match s, v with
    | .nilp, .ptr _ _ => false
    | .ptr _ _, .nilp => false
    | .ptr j _, .ptr id _ => match List.lookup j its0, lkI id its with
      | some (.blk _ l), some (.blk _ cs) => fitBL (fitB its its0 n) l cs
      | _, _ => true
    | .fn _ a b, .fn _ a' b' => fitBL (fitB its its0 n) a a' && fitBL (fitB its its0 n) b b'
    | _, _ => true
  | 0, _, _ => true
def findS (f : Nat) (args : List (AV S)) (its : Its S) : List (Deal S) → Option (Deal S)
  | [] => none
  | s :: r => bif Nat.beq s.f f && fitL s.args args && fitBL (fitB its s.its 4) s.args args then some s else findS f args its r
/-- An operation: its value; what of one's own there is then; what it read of it, what it wrote. -/
def stepE (Φ : List (Deal S)) (env : Env S) (its : Its S) (nx : Nat) (o : Op) (k : AV S → Its S → Nat → List Nat → List Nat → Option β) : Option β :=
  match o with
  | .alloc e => allocA cx e its nx k
  | .box e x => boxA e (evA env x) its nx k
  | .store t a x => storeA cx t (evA env a) (evA env x) its nx k
  | .makeSlice t l c => makeA cx t (sameO l c) (evA env l) (evA env c) its nx k
  | .buildSlice t n parts => buildA cx t n (parts.toList.map fun p => (p.1, evA env p.2)) its nx k
  | .call ⟨.builtin .append, ⟨[s, x]⟩, ⟨[t, t']⟩⟩ => bif Nat.beq t t' then appendA cx t (evA env s) (evA env x) its nx k else appZA cx t t' (evA env s) (evA env x) its nx k
  | .call ⟨.builtin .copy, ⟨[d, x]⟩, ⟨[t, t']⟩⟩ => bif Nat.beq t t' then copyA cx t (evA env d) (evA env x) its nx k else none
  | .call ⟨.builtin .cap, ⟨[x]⟩, ⟨[t]⟩⟩ => match evA env x with
    | .nils => bif isSl cx.T t then k (.int .i64 0) its nx [] [] else none
    | _ => none
  | .slice t (.tmp a) lo hi (some mx) => match lkE a env with
    | .own id => match lkI id its with
      | some (.sl c _ _ _ _) => asRo c (.own id) its fun xs z its1 d => stepP cx ((a, .ro c xs z) :: env) its1 (.slice t (.tmp a) lo hi (some mx)) fun v rd => k v its1 nx (rd ++ d) (gaveA its its1 its1)
      | _ => stepP cx env its o fun v rd => k v its nx rd []
    | _ => stepP cx env its o fun v rd => k v its nx rd []
  | .convert s d x => bif isStr cx.T s then ofStrA cx s d (evA env x) its nx k else bif Nat.beq s d && isSl cx.T s then markA cx s (evA env x) its nx k else stepP cx env its o fun v rd => k v its nx rd []
  | .call ⟨.value f, args, _⟩ => match evA env f with
    | .fn g first cap =>
      let av := first ++ args.toList.map (evA env) ++ cap
      match findS g av its Φ with
      | some s => callA cx s av its nx k
      | none => bif cx.cmp g then cmpA av fun v => k v its nx [] [] else none
    | _ => none
  | _ => stepP cx env its o fun v rd => k v its nx rd []
end

/-! ### A region -/
def guardA (ops : List Oper) (env : Env S) : Option (Nat × Bool) → Option (Bool × AV S)
  | none => some (true, .bl true)
  | some (j, b) => match ops[j]? with
    | some o => match o.dst with
      | some d => some (b, lkE d env)
      | none => none
    | none => none
def putA {β : Type} (d : Option Nat) (v : AV S) (env : Env S) (k : Env S → Option β) : Option β :=
  match d with
  | some d => k ((d, v) :: env)
  | none => k env
abbrev Fps := List (List Nat × List Nat)
/-- What is new has a new number. -/
def bornL (its : Its S) (nx : Nat) : Its S → Bool
  | [] => true
  | p :: r => ((lkI p.1 its).isSome || Nat.ble nx p.1) && bornL its nx r
def bornW (its its2 : Its S) (nx : Nat) : List Nat → Bool
  | [] => true
  | _ => bornL its nx its2
/-- What has been decided: slots that hold a bool that is known. -/
def lkH (d : Nat) : List (Nat × Bool) → Option Bool
  | [] => none
  | p :: r => bif Nat.beq p.1 d then some p.2 else lkH d r
def delH : Option Nat → List (Nat × Bool) → List (Nat × Bool)
  | none, hy => hy
  | some _, [] => []
  | some d, p :: r => bif Nat.beq p.1 d then delH (some d) r else p :: delH (some d) r
def slotG (ops : List Oper) : Option (Nat × Bool) → Option Nat
  | none => none
  | some (j, _) => match ops[j]? with
    | some o => o.dst
    | none => none
def knownH (hy : List (Nat × Bool)) : Option Nat → Option Bool
  | none => none
  | some d => lkH d hy
def addH (d : Option Nat) (x : Bool) (hy : List (Nat × Bool)) : List (Nat × Bool) :=
  match d with
  | none => hy
  | some d => (d, x) :: hy
/-- An operation, where some bools are known. -/
def stepH {β : Type} (cx : Cx S) (Φ : List (Deal S)) (hy : List (Nat × Bool)) (env : Env S) (its : Its S) (nx : Nat) (o : Op) (k : AV S → Its S → Nat → List Nat → List Nat → Option β) : Option β :=
  match o with
  | .pick (.tmp c) a b => match lkH c hy with
    | some true => k (evA env a) its nx [] []
    | some false => k (evA env b) its nx [] []
    | none => stepE cx Φ env its nx (.pick (.tmp c) a b) k
  | o => stepE cx Φ env its nx o k
def opsA {β : Type} (cx : Cx S) (Φ : List (Deal S)) (ops : List Oper) : List Oper → List (Nat × Bool) → Env S → Its S → Nat → Fps → (Env S → Its S → Nat → Fps → Option β) → Option β
  | [], _, env, its, nx, fp, k => k env its nx fp
  | o :: r, hy, env, its, nx, fp, k =>
    match guardA ops env o.guard with
    | none => none
    | some (b, v) =>
      let run := fun hy => stepH cx Φ hy env its nx o.op fun v its' nx' rd wr => bif bornW its its' nx wr then forceV v fun v => putA o.dst v env fun env' => opsA cx Φ ops r (delH o.dst hy) env' its' nx' ((rd, wr) :: fp) k else none
      let skip := fun hy => putA o.dst (.tup []) env fun env' => opsA cx Φ ops r (delH o.dst hy) env' its nx (([], []) :: fp) k
      match knownH hy (slotG ops o.guard) with
      | some true => match b with
        | true => run hy
        | false => skip hy
      | some false => match b with
        | true => skip hy
        | false => run hy
      | none => match v with
        | .bl x => if x = b then run (addH (slotG ops o.guard) b hy) else skip (addH (slotG ops o.guard) (!b) hy)
        | .pr p i => match b with
          | true => @ite _ p i (run (addH (slotG ops o.guard) true hy)) (skip (addH (slotG ops o.guard) false hy))
          | false => @ite _ p i (skip (addH (slotG ops o.guard) true hy)) (run (addH (slotG ops o.guard) false hy))
        | .tup [] => skip hy
        | _ => none
def meets : List Nat → List Nat → Bool
  | [], _ => false
  | x :: l, m => (m.any fun y => Nat.beq x y) || meets l m
def maskE : List Edge → List Nat → Nat
  | [], _ => 0
  | e :: r, ms => bif Region.binds .any e then Nat.lor (Nat.lor (Nat.pow 2 e.on) (ms.getD e.on 0)) (maskE r ms) else maskE r ms
def masks : List Oper → List Nat → List Nat
  | [], ms => ms
  | o :: r, ms => masks r (ms ++ [maskE o.after.toList ms])
def tmpsO : List Operand → List Nat
  | [] => []
  | .tmp t :: r => t :: tmpsO r
  | _ :: r => tmpsO r
def looks (ops : List Oper) (o : Oper) : List Nat :=
  let g := match o.guard with
    | some (j, _) => match ops[j]? with
      | some o' => match o'.dst with
        | some d => [d]
        | none => []
      | none => []
    | none => []
  g ++ tmpsO o.op.operands.toList
def dstL (o : Oper) : List Nat := match o.dst with | some d => [d] | none => []
/-- Neither makes a difference to the other. -/
def free2 (ops : List Oper) (a b : Oper × List Nat × List Nat) : Bool :=
  !(meets (dstL a.1) (looks ops b.1)) && !(meets (dstL b.1) (looks ops a.1)) && !(meets (dstL a.1) (dstL b.1)) && !(meets a.2.2 b.2.1) && !(meets a.2.2 b.2.2) && !(meets b.2.2 a.2.1)
def freeJ (ops : List Oper) (m : Nat) (b : Oper × List Nat × List Nat) : Nat → List (Oper × List Nat × List Nat) → Bool
  | _, [] => true
  | i, a :: r => (Nat.testBit m i || free2 ops a b) && freeJ ops m b (i + 1) r
def freeAll (ops : List Oper) (all : List (Oper × List Nat × List Nat)) : List (Oper × List Nat × List Nat) → List Nat → Nat → Bool
  | b :: r, m :: ms, j => freeJ ops m b 0 (all.take j) && freeAll ops all r ms (j + 1)
  | _, _, _ => true
def lowE : List Edge → Nat → Bool
  | [], _ => true
  | e :: r, j => bif Region.binds .any e then Nat.blt e.on j && lowE r j else lowE r j
def lowA : List Oper → Nat → Bool
  | [], _ => true
  | o :: r, j => lowE o.after.toList j && lowA r (j + 1)
def okDraw (ops : List Oper) (fps : Fps) : Bool :=
  lowA ops 0 && freeAll ops (ops.zip fps.reverse) (ops.zip fps.reverse) (masks ops []) 0

/-! ### A function's code -/
inductive HT (S : Nat → Type) (β : Type) : Type where
  | o
  | s (a b : HT S β)
  | j (sh : Sh) (J Jb : sh.ty S → Option β) (a b : HT S β)
  | l (sh : Sh) (L : sh.ty S → Option β) (B : (sh.ty S → Option β) → sh.ty S → Option β) (a : (sh.ty S → Option β) → HT S β)
  | u (a b : HT S β)
  | jj (a l : HT S β)
  | r (q : Seq S) (sh : Sh) (n1 n : Nat) (lits : List (Nat × ShI)) (rb : Sg) (J Jb : sh.ty S → Option β)
      (L : tyE S sh.env → q.T → tyI S lits → Option β) (Bd : tyE S sh.env → tyI S q.rits → tyI S lits → Option β)
      (Bs : tyE S sh.env → ShV.tyL S q.el → tyI S q.rits → (tyI S lits → Option β) → tyI S lits → Option β)
      (a b : tyE S sh.env → tyI S q.rits → (tyI S lits → Option β) → HT S β)
  | y (i : Nat)
  | alt (sh : Sh) (J Jb : sh.ty S → Option β) (b more : HT S β)
def HT.a {S : Nat → Type} {β : Type} : HT S β → HT S β
  | .s a _ => a
  | _ => .o
def HT.b {S : Nat → Type} {β : Type} : HT S β → HT S β
  | .s _ b => b
  | _ => .o
abbrev KA (S : Nat → Type) (β : Type) := Env S → Its S → Nat → Option β
def mkSt {β : Type} (cx : Cx S) (sh : Sh) (x : sh.ty S) (k : KA S β) : Option β := k (mkE cx (fun j => j) sh.env (P2.a x)) (mkIs cx (fun j => j) sh.its (P2.b x)) sh.nx
def iterL {X β : Type} (B : (X → Option β) → X → Option β) : Nat → X → Option β
  | 0, _ => none
  | n + 1, x => B (iterL B n) x
def fitE (its : Its S) (its0 : List (Nat × ShI)) : List (Nat × ShV) → Env S → Bool
  | [], _ => true
  | s :: l, env => fitV s.2 (lkE s.1 env) && fitB its its0 4 s.2 (lkE s.1 env) && fitE its its0 l env
/-- Ways that meet in one of several shapes. -/
def coerceAlts {β : Type} (cx : Cx S) (na : Nat) : HT S β → KA S β
  | .alt sh J _ _ more => fun env its nx => bif fitE its sh.its sh.env env then coerce cx na sh env its nx J else coerceAlts cx na more env its nx
  | _ => fun _ _ _ => none
def altsN {β : Type} (cx : Cx S) (b : Bool) (N : HT S β → Prop) (f : HT S β → KA S β) : HT S β → Prop
  | .alt sh J Jb h more => (∀ x, mkSt cx sh x (f h) = bif b then Jb x else J x) ∧ N h ∧ altsN cx b N f more
  | _ => True
/-- A loop of few rounds: each with a hint of its own. -/
def unrollA {β : Type} (f : HT S β → KA S β → KA S β) : HT S β → KA S β
  | .u a b => f a (unrollA f b)
  | _ => fun _ _ _ => none
def unrollN {β : Type} (N : HT S β → KA S β → Prop) (f : HT S β → KA S β → KA S β) : HT S β → Prop
  | .u a b => N a (unrollA f b) ∧ unrollN N f b
  | _ => True
def depthU {β : Type} : HT S β → Nat
  | .u _ b => depthU b + 1
  | _ => 0
/-- A value is handed to yield. -/
def yieldB {β : Type} (cx : Cx S) (Y : YH S β) (o : Oper) (env : Env S) (its : Its S) (nx : Nat) (k : KA S β) : Option β :=
  match o.op with
  | .call ⟨.value f, args, _⟩ => match evA env f with
    | .yld id => bif Nat.beq id Y.id then matchL cx [] Y.el (args.toList.map (evA env)) [] its nx [] fun a g its1 nx1 d => match g with
        | [] => Y.cons a (putA o.dst (.bl false) env fun env => k env its1 nx1) (putA o.dst (.bl true) env fun env => k env its1 nx1)
        | _ => none
      else none
    | _ => none
  | _ => none
def yieldA {β : Type} (cx : Cx S) (Y : YH S β) (ops : List Oper) (o : Option Oper) (env : Env S) (its : Its S) (nx : Nat) (k : List (Nat × Bool) → KA S β) : Option β :=
  match o with
  | some o => match guardA ops env o.guard with
    | some (b, v) =>
      let run := fun hy => yieldB cx Y o env its nx (k (delH o.dst hy))
      let skip := fun hy => putA o.dst (.tup []) env fun env => k (delH o.dst hy) env its nx
      match v with
      | .bl x => if x = b then run (addH (slotG ops o.guard) b []) else skip (addH (slotG ops o.guard) (!b) [])
      | .pr p i => match b with
        | true => @ite _ p i (run (addH (slotG ops o.guard) true [])) (skip (addH (slotG ops o.guard) false []))
        | false => @ite _ p i (skip (addH (slotG ops o.guard) true [])) (run (addH (slotG ops o.guard) false []))
      | _ => none
    | none => none
  | none => none
def envX (cx : Cx S) (l : List (Nat × ShV)) (x : tyE S l) : Env S := mkE cx (fun j => j) l x
def itsX (cx : Cx S) (l : List (Nat × ShI)) (y : tyI S l) : Its S := mkIs cx (fun j => j) l y
/-- How a range over a function goes on behind its end. -/
def endR {β : Type} (cx : Cx S) (q : Seq S) (env : List (Nat × ShV)) (n : Nat) (rb : Sg) (lits : List (Nat × ShI)) (x : tyE S env) (d : tyI S q.rits) (y : tyI S lits) (k : KA S β) : Option β :=
  k (envX cx env x) (mkIs cx (fG rb) q.rits d ++ itsX cx lits y) n
/-- How it goes on behind a jump out of it. -/
def jumpR {β : Type} (cx : Cx S) (q : Seq S) (env : List (Nat × ShV)) (rb : Sg) (x : tyE S env) (d : tyI S q.rits) (kq : Exit → KA S β) : Exit → KA S β
  | .ret => fun _ its nx => bif freeG q.rits rb its then kq .ret (envX cx env x) (mkIs cx (fG rb) q.rits d ++ its) nx else none
  | .exit id => fun _ its nx => bif freeG q.rits rb its then kq (.exit id) (envX cx env x) (mkIs cx (fG rb) q.rits d ++ its) nx else none
  | _ => fun _ _ _ => none
def nextR {β : Type} (cx : Cx S) (lits : List (Nat × ShI)) (n0 n : Nat) (rec : tyI S lits → Option β) : KA S β := fun _ its nx => reA cx lits n0 n its nx rec
def begR {β : Type} (cx : Cx S) (q : Seq S) (env : List (Nat × ShV)) (n : Nat) (lits : List (Nat × ShI)) (ps : Array Tmp) (x : tyE S env) (a : ShV.tyL S q.el) (y : tyI S lits) (k : KA S β) : Option β :=
  k (bindP ps.toList (mkL cx (fun j => j) q.el a) (envX cx env x)) (itsX cx lits y) n
def exec {β : Type} (cx : Cx S) (Φ : List (Deal S)) (Y : YH S β) (na : Nat) : Code → HT S β → KA S β → (Exit → KA S β) → KA S β
  | .skip, _, kn, _, env, its, nx => kn env its nx
  | .label _, _, kn, _, env, its, nx => kn env its nx
  | .seq x y, h, kn, kq, env, its, nx => match h with
    | .j sh J _ a _ => exec cx Φ Y na x a (fun env its nx => coerce cx na sh env its nx J) kq env its nx
    | .jj a l => exec cx Φ Y na x a (coerceAlts cx na l) kq env its nx
    | h => exec cx Φ Y na x h.a (exec cx Φ Y na y h.b kn kq) kq env its nx
  | .cond c x y, h, kn, kq, env, its, nx => boolA (evA env c) (exec cx Φ Y na x h.a kn kq env its nx) (exec cx Φ Y na y h.b kn kq env its nx)
  | .block id c, h, kn, kq, env, its, nx => exec cx Φ Y na c h kn (fun e => match e with | .exit id' => bif Nat.beq id' id then kn else kq (.exit id') | e => kq e) env its nx
  | .scope c, h, kn, kq, env, its, nx => exec cx Φ Y na c h kn (fun e => match e with | .goto _ => fun _ _ _ => none | e => kq e) env its nx
  | .loop c, h, _, kq, env, its, nx => match h with
    | .l sh L _ _ => coerce cx na sh env its nx L
    | .u a b => unrollA (fun a k => exec cx Φ Y na c a k kq) (.u a b) env its nx
    | _ => none
  | .rangeFunc _ _ _ _, h, _, _, env, its, nx => match h with
    | .r _ sh n1 _ _ _ J _ _ _ _ _ _ => bif Nat.ble na n1 && Nat.ble n1 sh.nx then coerce cx na sh env its nx J else none
    | _ => none
  | .exit id, _, _, kq, env, its, nx => kq (.exit id) env its nx
  | .ret, _, _, kq, env, its, nx => kq .ret env its nx
  | .region _ ops draw, h, kn, _, env, its, nx => match h with
    | .y i => bif draw then none else opsA cx Φ ops.toList (ops.toList.take i) [] env its nx [] fun env its nx _ => yieldA cx Y ops.toList ops.toList[i]? env its nx fun hy env its nx => opsA cx Φ ops.toList (ops.toList.drop (i + 1)) hy env its nx [] fun env its nx _ => kn env its nx
    | _ => opsA cx Φ ops.toList ops.toList [] env its nx [] fun env its nx fp =>
      bif draw then bif okDraw ops.toList fp then kn env its nx else none else kn env its nx
  | _, _, _, _, _, _, _ => none
/-- What is to be shown of the ways that meet, and of the loops. -/
def Nodes {β : Type} (SQ : Seq S → Prop) (cx : Cx S) (Φ : List (Deal S)) (Y : YH S β) (na : Nat) : Code → HT S β → KA S β → (Exit → KA S β) → Prop
  | .seq x y, h, kn, kq => match h with
    | .j sh J Jb a b => Nodes SQ cx Φ Y na x a (fun env its nx => coerce cx na sh env its nx J) kq ∧ (∀ x, mkSt cx sh x (exec cx Φ Y na y b kn kq) = J x) ∧ Nodes SQ cx Φ Y na y b kn kq
    | .jj a l => Nodes SQ cx Φ Y na x a (coerceAlts cx na l) kq ∧ altsN cx false (fun b => Nodes SQ cx Φ Y na y b kn kq) (fun b => exec cx Φ Y na y b kn kq) l
    | .s a b => Nodes SQ cx Φ Y na x a (exec cx Φ Y na y b kn kq) kq ∧ Nodes SQ cx Φ Y na y b kn kq
    | _ => True
  | .cond _ x y, h, kn, kq => match h with
    | .s a b => Nodes SQ cx Φ Y na x a kn kq ∧ Nodes SQ cx Φ Y na y b kn kq
    | _ => True
  | .block id c, h, kn, kq => Nodes SQ cx Φ Y na c h kn (fun e => match e with | .exit id' => bif Nat.beq id' id then kn else kq (.exit id') | e => kq e)
  | .scope c, h, kn, kq => Nodes SQ cx Φ Y na c h kn (fun e => match e with | .goto _ => fun _ _ _ => none | e => kq e)
  | .loop c, h, _, kq => match h with
    | .l sh L B a => L = iterL B FUEL ∧ ∀ rec, (∀ x, mkSt cx sh x (exec cx Φ Y na c (a rec) (fun env its nx => coerce cx na sh env its nx rec) kq) = B rec x) ∧ Nodes SQ cx Φ Y na c (a rec) (fun env its nx => coerce cx na sh env its nx rec) kq
    | .u a b => unrollN (fun a k => Nodes SQ cx Φ Y na c a k kq) (fun a k => exec cx Φ Y na c a k kq) (.u a b)
    | _ => True
  | .rangeFunc g ps ca cb, h, kn, kq => match h with
    | .r q sh n1 n lits rb J Jb L Bd Bs a b => SQ q ∧ (∀ x, mkSt cx sh x (fun env its nx => rangeA cx q rb lits g ps.size n1 n env its nx (L (P2.a x))) = J x) ∧ (∀ x d y, endR cx q sh.env n rb lits x d y kn = Bd x d y) ∧
        L = (fun x => iterT (Bd x) (Bs x)) ∧ ∀ x st rec, (∀ v y, begR cx q sh.env n lits ps x v y (exec cx Φ Y n1 ca (a x st rec) (exec cx Φ Y n1 cb (b x st rec) (nextR cx lits n1 n rec) (jumpR cx q sh.env rb x st kq)) (fun _ _ _ _ => none)) = Bs x v st rec y) ∧
          Nodes SQ cx Φ Y n1 ca (a x st rec) (exec cx Φ Y n1 cb (b x st rec) (nextR cx lits n1 n rec) (jumpR cx q sh.env rb x st kq)) (fun _ _ _ _ => none) ∧ Nodes SQ cx Φ Y n1 cb (b x st rec) (nextR cx lits n1 n rec) (jumpR cx q sh.env rb x st kq)
    | _ => True
  | _, _, _, _ => True
/-- The same, with the plain functions told apart from what stands for them. -/
def NodesEq {β : Type} (SQ : Seq S → Prop) (cx : Cx S) (Φ : List (Deal S)) (Y : YH S β) (na : Nat) : Code → HT S β → KA S β → (Exit → KA S β) → Prop
  | .seq x y, h, kn, kq => match h with
    | .j sh J Jb a b => NodesEq SQ cx Φ Y na x a (fun env its nx => coerce cx na sh env its nx J) kq ∧ (∀ x, mkSt cx sh x (exec cx Φ Y na y b kn kq) = Jb x) ∧ NodesEq SQ cx Φ Y na y b kn kq
    | .jj a l => NodesEq SQ cx Φ Y na x a (coerceAlts cx na l) kq ∧ altsN cx true (fun b => NodesEq SQ cx Φ Y na y b kn kq) (fun b => exec cx Φ Y na y b kn kq) l
    | .s a b => NodesEq SQ cx Φ Y na x a (exec cx Φ Y na y b kn kq) kq ∧ NodesEq SQ cx Φ Y na y b kn kq
    | _ => True
  | .cond _ x y, h, kn, kq => match h with
    | .s a b => NodesEq SQ cx Φ Y na x a kn kq ∧ NodesEq SQ cx Φ Y na y b kn kq
    | _ => True
  | .block id c, h, kn, kq => NodesEq SQ cx Φ Y na c h kn (fun e => match e with | .exit id' => bif Nat.beq id' id then kn else kq (.exit id') | e => kq e)
  | .scope c, h, kn, kq => NodesEq SQ cx Φ Y na c h kn (fun e => match e with | .goto _ => fun _ _ _ => none | e => kq e)
  | .loop c, h, _, kq => match h with
    | .l sh L B a => ∀ rec, (∀ x, mkSt cx sh x (exec cx Φ Y na c (a rec) (fun env its nx => coerce cx na sh env its nx rec) kq) = B rec x) ∧ NodesEq SQ cx Φ Y na c (a rec) (fun env its nx => coerce cx na sh env its nx rec) kq
    | .u a b => unrollN (fun a k => NodesEq SQ cx Φ Y na c a k kq) (fun a k => exec cx Φ Y na c a k kq) (.u a b)
    | _ => True
  | .rangeFunc g ps ca cb, h, kn, kq => match h with
    | .r q sh n1 n lits rb J Jb L Bd Bs a b => SQ q ∧ (∀ x, mkSt cx sh x (fun env its nx => rangeA cx q rb lits g ps.size n1 n env its nx (L (P2.a x))) = Jb x) ∧ (∀ x d y, endR cx q sh.env n rb lits x d y kn = Bd x d y) ∧
        ∀ x st rec, (∀ v y, begR cx q sh.env n lits ps x v y (exec cx Φ Y n1 ca (a x st rec) (exec cx Φ Y n1 cb (b x st rec) (nextR cx lits n1 n rec) (jumpR cx q sh.env rb x st kq)) (fun _ _ _ _ => none)) = Bs x v st rec y) ∧
          NodesEq SQ cx Φ Y n1 ca (a x st rec) (exec cx Φ Y n1 cb (b x st rec) (nextR cx lits n1 n rec) (jumpR cx q sh.env rb x st kq)) (fun _ _ _ _ => none) ∧ NodesEq SQ cx Φ Y n1 cb (b x st rec) (nextR cx lits n1 n rec) (jumpR cx q sh.env rb x st kq)
    | _ => True
  | _, _, _, _ => True
def Ties {β : Type} : HT S β → Prop
  | .o => True
  | .s a b => Ties a ∧ Ties b
  | .j _ J Jb a b => J = Jb ∧ Ties a ∧ Ties b
  | .l _ L B a => L = iterL B FUEL ∧ ∀ rec, Ties (a rec)
  | .u a b => Ties a ∧ Ties b
  | .jj a l => Ties a ∧ Ties l
  | .alt _ J Jb b more => J = Jb ∧ Ties b ∧ Ties more
  | .r _ _ _ _ _ _ J Jb L Bd Bs a b => J = Jb ∧ L = (fun x => iterT (Bd x) (Bs x)) ∧ ∀ x st rec, Ties (a x st rec) ∧ Ties (b x st rec)
  | .y _ => True
def resA {β : Type} (cx : Cx S) (env : Env S) (its : Its S) : List ResultVar → (List (AV S) → Option β) → Option β
  | [], k => k []
  | .tmp t :: r, k => resA cx env its r fun vs => k (lkE t env :: vs)
  | .cell a t :: r, k => loadA cx its t (lkE a env) fun v _ => resA cx env its r fun vs => k (v :: vs)
def endA (cx : Cx S) (s : Deal S) (rs : List ResultVar) : KA S (Alt S s.res) := fun env its nx =>
  resA cx env its rs fun vs => match vs with
    | [v] => retA cx s.nr (idg s.na) s.res v its nx
    | vs => retA cx s.nr (idg s.na) s.res (.tup vs) its nx
def endQ (cx : Cx S) (s : Deal S) (rs : List ResultVar) : Exit → KA S (Alt S s.res)
  | .ret => endA cx s rs
  | _ => fun _ _ _ => none
def envOf : Nat → List (AV S) → Env S
  | _, [] => []
  | i, v :: r => (i, v) :: envOf (i + 1) r
def body (cx : Cx S) (Φ : List (Deal S)) (s : Deal S) (fn : Func) (c : Code) (h : HT S (Alt S s.res)) (x : P2 (ShV.tyL S s.args) S s.its) : Option (Alt S s.res) :=
  exec cx Φ YH.no s.na c h (endA cx s fn.results.toList) (endQ cx s fn.results.toList) (envOf 0 (mkL cx (fun j => j) s.args (P2.a x))) (mkIs cx (fun j => j) s.its (P2.b x)) s.na
/-- The end of a function that is ranged over. -/
def endT (cx : Cx S) (q : Seq S) : KA S q.T := fun _ its nx => reA cx q.rits q.na q.na its nx fun d => some (.done d)
def endTQ (cx : Cx S) (q : Seq S) : Exit → KA S q.T
  | .ret => endT cx q
  | _ => fun _ _ _ => none
def seqBody (cx : Cx S) (Φ : List (Deal S)) (q : Seq S) (c : Code) (h : HT S q.T) (x : P2 (ShV.tyL S q.args) S q.its) : Option q.T :=
  exec cx Φ q.y (q.na + 1) c h (endT cx q) (endTQ cx q) (envOf 0 ((mkL cx (fun j => j) q.args (P2.a x)).take q.nf ++ [.yld q.na] ++ (mkL cx (fun j => j) q.args (P2.a x)).drop q.nf)) (mkIs cx (fun j => j) q.its (P2.b x)) (q.na + 1)
/-- All slots that are written are there. -/
def dstR (N : Nat) : List Oper → Bool
  | [] => true
  | o :: r => (match o.dst with | some d => Nat.blt d N | none => true) && dstR N r
def dstOk (N : Nat) : Code → Bool
  | .seq a b => dstOk N a && dstOk N b
  | .cond _ a b => dstOk N a && dstOk N b
  | .block _ c => dstOk N c
  | .scope c => dstOk N c
  | .loop c => dstOk N c
  | .rangeFunc _ ps a b => ps.toList.all (fun t => Nat.blt t N) && dstOk N a && dstOk N b
  | .region _ ops _ => dstR N ops.toList
  | _ => true
end
end Go.VX

/- VX, part d: what a state told by data says of a world. -/
namespace Go.VX
noncomputable section
open Go Go.SX Go.RowKit
set_option linter.unusedVariables false
variable {S : Nat → Type}

/-- Where what is one's own lies: by its number a pointer or a slice, and the cells of an element. -/
abbrev Hd := Nat → Option (Value × Nat)
/-- What structs are; tables that no one changes. -/
structure RS (S : Nat → Type) where
  r : (n : Nat) → Rp (S n)
  gl : Nat → Option (IntKind × List Int) := fun _ => none
instance : CoeFun (RS S) (fun _ => (n : Nat) → Rp (S n)) := ⟨RS.r⟩
def GLF (rs : RS S) (I : Nat → Prop) (w : World) : Prop := ∀ g i xs, rs.gl g = some (i, xs) → Elems (Rp.int i) I w (some ⟨g, 0, none⟩) xs
theorem GLF.st {rs : RS S} {I I' : Nat → Prop} {w w' : World} (hk : Kp I w I' w') (h : GLF rs I w) : GLF rs I' w' := fun g i xs e => (h g i xs e).st hk
/-- Slices; one without an address has no room. -/
def rpSl {τ : Type} (r : Rp τ) : Rp (List τ) :=
  ⟨1, fun I w cs xs => ∃ A c, cs = [.slice A xs.length c] ∧ (xs.length ≤ c ∧ c ≤ 9223372036854775807) ∧ Elems r I w A xs ∧ (A = none → c = 0),
   by rintro I w cs xs ⟨A, c, rfl, _⟩; rfl, by rintro I w I' w' cs xs hk ⟨A, c, rfl, h1, h2, h3⟩; exact ⟨A, c, rfl, h1, h2.st hk, h3⟩⟩
theorem flat_sl {τ : Type} {r : Rp τ} : (rpSl r).Flat := by rintro I w cs x ⟨A, c, rfl, _⟩ v hv; rw [List.mem_singleton.1 hv]; rfl
def rpC (rs : RS S) : (c : TC) → Rp (c.D S)
  | .int k => Rp.int k
  | .bool => Rp.bool
  | .str => Rp.str
  | .sl c => rpSl (rpC rs c)
  | .st n => rs n
def nzOk : Nz → Option Addr → Prop
  | .nil, A => A = none
  | .non, A => A ≠ none
  | .unk, _ => True
  | .fl b, A => A.isNone = b
def nzO (z : Nz) (A : Option Addr) (cap : Nat) : Prop := nzOk z A ∧ (A = none → cap = 0)
section
variable (rs : RS S) (ρ : Hd) (I : Nat → Prop) (w : World)
mutual
def Rel : AV S → Value → Prop
  | .any, _ => True
  | .nilp, v => v = .pointer none
  | .nilf, v => v = .nilFunc
  | .nils, v => v = .slice none 0 0
  | .int k x, v => v = .int k x
  | .bl b, v => v = .bool b
  | .pr p i, v => v = .bool (@decide p i)
  | .str s, v => v = .string s
  | .ro c xs z, v => ∃ A cap, v = .slice A xs.length cap ∧ (xs.length ≤ cap ∧ cap ≤ 9223372036854775807) ∧ Elems (rpC rs c) I w A xs ∧ nzO z A cap
  | .own id, v => ∃ A n c sz, v = .slice A n c ∧ ρ id = some (v, sz)
  | .part id lo hi, v => ∃ A n c sz A' m d, v = .slice A' m d ∧ ρ id = some (.slice A n c, sz) ∧
      ((A = none ∧ A' = none ∧ m = 0 ∧ d = 0 ∧ lo = 0 ∧ hi = 0) ∨ ∃ b o, A = some ⟨b, 0, none⟩ ∧ A' = some ⟨b, o, none⟩ ∧ Pt o m d sz lo hi n ∧ d + lo.toNat = c ∧ (lo = 0 → o = 0))
  | .ptr id off, v => ∃ b sz, v = .pointer (some ⟨b, off, none⟩) ∧ ρ id = some (.pointer (some ⟨b, 0, none⟩), sz)
  | .aptr id, v => ∃ b n c sz, v = .pointer (some ⟨b, 0, none⟩) ∧ ρ id = some (.slice (some ⟨b, 0, none⟩) n c, sz)
  | .eown id i off, v => ∃ b n c sz, v = .pointer (some ⟨b, 0 + i.toNat * sz + off, none⟩) ∧ ρ id = some (.slice (some ⟨b, 0, none⟩) n c, sz)
  | .ero c x off, v => ∃ b o cs, v = .pointer (some ⟨b, o + off, none⟩) ∧ (rpC rs c).rep I w cs x ∧ At w b o cs ∧ I b
  | .lits id n, v => ∃ b sz, v = .slice (some ⟨b, 0, none⟩) n n ∧ ρ id = some (.pointer (some ⟨b, 0, none⟩), sz)
  | .arr k N xs, v => v = .agg (xs.map (Value.int k)).toArray ∧ xs.length = N
  | .agg cs, v => ∃ vs, v = .agg vs.toArray ∧ RelL cs vs
  | .tup cs, v => ∃ vs, v = .tuple vs.toArray ∧ RelL cs vs
  | .fn f a b, v => ∃ vs us, v = .func (.func f) vs.toArray us.toArray ∧ RelL a vs ∧ RelL b us
  | .glob g, v => v = .pointer (some ⟨g, 0, none⟩) ∧ ∀ i xs, rs.gl g = some (i, xs) → Elems (Rp.int i) I w (some ⟨g, 0, none⟩) xs
  | .yld id, v => ∃ f a b sz, v = .func f a b ∧ ρ id = some (v, sz)
def RelL : List (AV S) → List Value → Prop
  | [], vs => vs = []
  | a :: l, vs => ∃ v r, vs = v :: r ∧ Rel a v ∧ RelL l r
end
/-- What is one's own, told by data, is this. -/
def ItR (id : Nat) : AI S → It → Prop
  | .blk t cs, p => ∃ b vs sz, ρ id = some (.pointer (some ⟨b, 0, none⟩), sz) ∧ p = .blk b (.cells vs.toArray t (0, 0)) ∧ RelL rs ρ I w cs vs ∧ flatv vs
  | .sl c t sz xs z, p => ∃ A cap cl, ρ id = some (.slice A xs.length cap, sz) ∧ p = .sl (.slice A xs.length cap) t sz xs.length cl ∧ sz = (rpC rs c).n ∧ RepL (rpC rs c) I w cl xs ∧ nzOk z A
  | .arr i t N xs, p => ∃ b, ρ id = some (.slice (some ⟨b, 0, none⟩) N N, 1) ∧ p = .sl (.slice (some ⟨b, 0, none⟩) N N) t 1 N (xs.map (Value.int i)) ∧ xs.length = N
  | .ro _ _ _, _ => False
def RoR (id : Nat) : AI S → Prop
  | .ro c xs z => ∃ A cap sz, ρ id = some (.slice A xs.length cap, sz) ∧ sz = (rpC rs c).n ∧ (xs.length ≤ cap ∧ cap ≤ 9223372036854775807) ∧ Elems (rpC rs c) I w A xs ∧ nzOk z A ∧ ((A = none ∧ xs = [] ∧ cap = 0) ∨ ∃ b, A = some ⟨b, 0, none⟩ ∧ I b)
  | _ => False
def ItsR : Its S → List It → Prop
  | [], L => L = []
  | q :: r, L => (∃ p L', L = p :: L' ∧ ItR rs ρ I w q.1 q.2 p ∧ ItsR r L') ∨ (RoR rs ρ I w q.1 q.2 ∧ ItsR r L)
/-- All that is one's own, but for F. -/
def HR (w0 : World) (M : Nat → Prop) (F : List It) (m : Nat → Option (AI S)) : Prop :=
  ∃ its L, (keysI its).Nodup ∧ (∀ id, lkI id its = m id) ∧ ItsR rs ρ I w its L ∧ St w0 M I (L ++ F) w
structure EnvR (env : Env S) (E : List Value) : Prop where
  h : ∀ t, Rel rs ρ I w (lkE t env) (E.getD t undef)
  gl : GLF rs I w
end
/-- Handles stay. -/
def Le (ρ ρ' : Hd) : Prop := ∀ id x, ρ id = some x → ρ' id = some x
theorem Le.refl (ρ : Hd) : Le ρ ρ := fun _ _ h => h
theorem Le.trans {ρ ρ1 ρ2 : Hd} (h : Le ρ ρ1) (k : Le ρ1 ρ2) : Le ρ ρ2 := fun id x e => k id x (h id x e)
variable {rs : RS S} {ρ ρ' : Hd} {I I' : Nat → Prop} {w w' w0 : World} {M : Nat → Prop} {F : List It} {m : Nat → Option (AI S)}
mutual
theorem Rel.mono (hr : Le ρ ρ') (hk : Kp I w I' w') : ∀ (a : AV S) (v : Value), Rel rs ρ I w a v → Rel rs ρ' I' w' a v
  | .any, _, _ => trivial
  | .nilp, _, h => h
  | .nilf, _, h => h
  | .nils, _, h => h
  | .int _ _, _, h => h
  | .bl _, _, h => h
  | .pr _ _, _, h => h
  | .str _, _, h => h
  | .ro _ _ _, _, ⟨A, cap, h1, h2, h3, h4⟩ => ⟨A, cap, h1, h2, h3.st hk, h4⟩
  | .own _, _, ⟨A, n, c, sz, h1, h2⟩ => ⟨A, n, c, sz, h1, hr _ _ h2⟩
  | .part _ _ _, _, ⟨A, n, c, sz, A', m, d, h1, h2, h3⟩ => ⟨A, n, c, sz, A', m, d, h1, hr _ _ h2, h3⟩
  | .ptr _ _, _, ⟨b, sz, h1, h2⟩ => ⟨b, sz, h1, hr _ _ h2⟩
  | .aptr _, _, ⟨b, n, c, sz, h1, h2⟩ => ⟨b, n, c, sz, h1, hr _ _ h2⟩
  | .eown _ _ _, _, ⟨b, n, c, sz, h1, h2⟩ => ⟨b, n, c, sz, h1, hr _ _ h2⟩
  | .ero _ _ _, _, ⟨b, o, cs, h1, h2, h3, h4⟩ => ⟨b, o, cs, h1, (rpC rs _).st hk h2, h3.st hk h4, (hk _ h4).1⟩
  | .lits _ _, _, ⟨b, sz, h1, h2⟩ => ⟨b, sz, h1, hr _ _ h2⟩
  | .arr _ _ _, _, h => h
  | .agg cs, _, ⟨vs, h1, h2⟩ => ⟨vs, h1, RelL.mono hr hk cs vs h2⟩
  | .tup cs, _, ⟨vs, h1, h2⟩ => ⟨vs, h1, RelL.mono hr hk cs vs h2⟩
  | .fn _ a b, _, ⟨vs, us, h1, h2, h3⟩ => ⟨vs, us, h1, RelL.mono hr hk a vs h2, RelL.mono hr hk b us h3⟩
  | .glob _, _, h => ⟨h.1, fun i xs e => (h.2 i xs e).st hk⟩
  | .yld _, _, ⟨f, a, b, sz, h1, h2⟩ => ⟨f, a, b, sz, h1, hr _ _ h2⟩
theorem RelL.mono (hr : Le ρ ρ') (hk : Kp I w I' w') : ∀ (a : List (AV S)) (v : List Value), RelL rs ρ I w a v → RelL rs ρ' I' w' a v
  | [], _, h => h
  | a :: l, _, ⟨v, r, h1, h2, h3⟩ => ⟨v, r, h1, Rel.mono hr hk a v h2, RelL.mono hr hk l r h3⟩
end
theorem ItR.mono (hr : Le ρ ρ') (hk : Kp I w I' w') {id : Nat} : ∀ {it : AI S} {p : It}, ItR rs ρ I w id it p → ItR rs ρ' I' w' id it p
  | .blk _ _, _, ⟨b, vs, sz, h1, h2, h3, h4⟩ => ⟨b, vs, sz, hr _ _ h1, h2, RelL.mono hr hk _ _ h3, h4⟩
  | .sl _ _ _ _ _, _, ⟨A, cap, cl, h1, h2, h3, h4, h5⟩ => ⟨A, cap, cl, hr _ _ h1, h2, h3, h4.st hk, h5⟩
  | .arr _ _ _ _, _, ⟨b, h1, h2, h3⟩ => ⟨b, hr _ _ h1, h2, h3⟩
theorem RoR.mono (hr : Le ρ ρ') (hk : Kp I w I' w') {id : Nat} : ∀ {it : AI S}, RoR rs ρ I w id it → RoR rs ρ' I' w' id it
  | .ro _ _ _, ⟨A, cap, sz, h1, h2, h3, h4, h5, h6⟩ => ⟨A, cap, sz, hr _ _ h1, h2, h3, h4.st hk, h5, h6.imp_right fun ⟨b, e, hb⟩ => ⟨b, e, (hk b hb).1⟩⟩
theorem ItsR.mono (hr : Le ρ ρ') (hk : Kp I w I' w') : ∀ {its : Its S} {L : List It}, ItsR rs ρ I w its L → ItsR rs ρ' I' w' its L
  | [], _, h => h
  | q :: r, L, .inl ⟨p, L', h1, h2, h3⟩ => .inl ⟨p, L', h1, ItR.mono hr hk h2, ItsR.mono hr hk h3⟩
  | q :: r, L, .inr ⟨h2, h3⟩ => .inr ⟨RoR.mono hr hk h2, ItsR.mono hr hk h3⟩
theorem EnvR.mono {env : Env S} {E : List Value} (hr : Le ρ ρ') (hk : Kp I w I' w') (h : EnvR rs ρ I w env E) : EnvR rs ρ' I' w' env E := ⟨fun t => Rel.mono hr hk _ _ (h.h t), h.gl.st hk⟩
instance {env : Env S} {E : List Value} : CoeFun (EnvR rs ρ I w env E) (fun _ => ∀ t, Rel rs ρ I w (lkE t env) (E.getD t undef)) := ⟨EnvR.h⟩

/-! ### Lists of what is one's own, by numbers -/
def updF (id : Nat) (x : AI S) : Its S → Its S
  | [] => []
  | p :: r => bif Nat.beq p.1 id then (p.1, x) :: r else p :: updF id x r
def delF (id : Nat) : Its S → Its S
  | [] => []
  | p :: r => bif Nat.beq p.1 id then delF id r else p :: delF id r
theorem updI_eq {β : Type} (id : Nat) (x : AI S) : ∀ (its : Its S) (k : Its S → β), updI id x its k = k (updF id x its)
  | [], k => rfl
  | p :: r, k => by
    simp only [updI, updF]
    cases Nat.beq p.1 id
    · exact updI_eq id x r _
    · rfl
theorem delI_eq {β : Type} (id : Nat) : ∀ (its : Its S) (k : Its S → β), delI id its k = k (delF id its)
  | [], k => rfl
  | p :: r, k => by
    simp only [delI, delF]
    cases Nat.beq p.1 id
    · exact delI_eq id r _
    · exact delI_eq id r _
theorem beq_ne {a b : Nat} (h : Nat.beq a b = false) : a ≠ b := by rintro rfl; rw [Nat.beq_refl] at h; cases h
theorem ne_beq {a b : Nat} (h : a ≠ b) : Nat.beq a b = false := by
  cases e : Nat.beq a b
  · rfl
  · exact absurd (Nat.eq_of_beq_eq_true e) h
theorem lkI_cons {j : Nat} {p : Nat × AI S} {r : Its S} : lkI j (p :: r) = if p.1 = j then some p.2 else lkI j r := by
  simp only [lkI]
  by_cases h : p.1 = j
  · rw [if_pos h, h, Nat.beq_refl]; rfl
  · rw [if_neg h, ne_beq h]; rfl
theorem lkE_cons {j : Nat} {p : Nat × AV S} {r : Env S} : lkE j (p :: r) = if p.1 = j then p.2 else lkE j r := by
  simp only [lkE]
  by_cases h : p.1 = j
  · rw [if_pos h, h, Nat.beq_refl]; rfl
  · rw [if_neg h, ne_beq h]; rfl
theorem lkS_cons {j : Nat} {p : Nat × Nat} {r : Sg} : lkS j (p :: r) = if p.1 = j then some p.2 else lkS j r := by
  simp only [lkS]
  by_cases h : p.1 = j
  · rw [if_pos h, h, Nat.beq_refl]; rfl
  · rw [if_neg h, ne_beq h]; rfl
theorem lkI_upd {id : Nat} {x : AI S} : ∀ {its : Its S} (j : Nat), lkI j (updF id x its) = if j = id ∧ (lkI id its).isSome then some x else lkI j its
  | [], j => by simp [updF, lkI]
  | p :: r, j => by
    simp only [updF]
    by_cases h : p.1 = id
    · rw [h, Nat.beq_refl]
      simp only [cond_true, lkI_cons, h, if_true, Option.isSome_some, and_true]
      by_cases hj : id = j
      · simp [hj]
      · simp [hj, Ne.symm hj]
    · rw [ne_beq h]
      simp only [cond_false, lkI_cons, lkI_upd (its := r), if_neg h]
      by_cases hj : p.1 = j
      · subst hj; simp [h]
      · simp [hj]
theorem lkI_del {id : Nat} : ∀ {its : Its S} (j : Nat), lkI j (delF id its) = if j = id then none else lkI j its
  | [], j => by simp [delF, lkI]
  | p :: r, j => by
    simp only [delF]
    by_cases h : p.1 = id
    · rw [h, Nat.beq_refl]
      simp only [cond_true, lkI_del (its := r), lkI_cons, h]
      by_cases hj : j = id
      · simp [hj]
      · simp [hj, Ne.symm hj]
    · rw [ne_beq h]
      simp only [cond_false, lkI_cons, lkI_del (its := r)]
      by_cases hj : p.1 = j
      · subst hj; simp [h]
      · simp [hj]
theorem lkI_none {id : Nat} : ∀ {its : Its S}, lkI id its = none ↔ id ∉ keysI its
  | [] => by simp [lkI, keysI]
  | p :: r => by
    rw [lkI_cons]
    simp only [keysI, List.mem_cons, not_or]
    by_cases h : p.1 = id
    · simp [h]
    · simp [h, lkI_none (its := r), Ne.symm h]

theorem stPerm {L L' : List It} (s : St w0 M I L w) (h : L.Perm L') : St w0 M I L' w :=
  ⟨s.only, (h.pairwise_iff (R := It.dis) (fun {x y} hxy b hx hy => hxy b hy hx)).1 s.pair, fun p hp => s.here p (h.mem_iff.2 hp), fun p hp => s.mine p (h.mem_iff.2 hp), fun p hp => s.apart p (h.mem_iff.2 hp), s.inn⟩
/-- One of them to the head. -/
theorem ItsR.out {id : Nat} {it : AI S} : ∀ {its : Its S} {L : List It}, ItsR rs ρ I w its L → (keysI its).Nodup → lkI id its = some it →
    (∃ p L', L.Perm (p :: L') ∧ ItR rs ρ I w id it p ∧ ItsR rs ρ I w (delF id its) L') ∨ (RoR rs ρ I w id it ∧ ItsR rs ρ I w (delF id its) L)
  | [], _, _, _, h => by simp [lkI] at h
  | q :: r, L, hi, hn, h => by
    rw [lkI_cons] at h
    simp only [keysI, List.nodup_cons] at hn
    by_cases e : q.1 = id
    · rw [if_pos e] at h
      cases h
      subst e
      have hd : delF q.1 (q :: r) = r := by
        simp only [delF, Nat.beq_refl, cond_true]
        have : ∀ r : Its S, q.1 ∉ keysI r → delF q.1 r = r := by
          intro r
          induction r with
          | nil => intro _; rfl
          | cons p r ih =>
            intro h
            simp only [keysI, List.mem_cons, not_or] at h
            simp only [delF, ne_beq (Ne.symm h.1), cond_false, ih h.2]
        exact this r hn.1
      rw [hd]
      rcases hi with ⟨p, L', rfl, h1, h2⟩ | ⟨h1, h2⟩
      · exact .inl ⟨p, L', List.Perm.refl _, h1, h2⟩
      · exact .inr ⟨h1, h2⟩
    · rw [if_neg e] at h
      have hd : delF id (q :: r) = q :: delF id r := by simp only [delF, ne_beq e, cond_false]
      rw [hd]
      rcases hi with ⟨p, L', rfl, h1, h2⟩ | ⟨h1, h2⟩
      · rcases ItsR.out h2 hn.2 h with ⟨p', L'', hp, h3, h4⟩ | ⟨h3, h4⟩
        · exact .inl ⟨p', p :: L'', (hp.cons p).trans (List.Perm.swap p' p L''), h3, .inl ⟨p, L'', rfl, h1, h4⟩⟩
        · exact .inr ⟨h3, .inl ⟨p, L', rfl, h1, h4⟩⟩
      · rcases ItsR.out h2 hn.2 h with ⟨p', L'', hp, h3, h4⟩ | ⟨h3, h4⟩
        · exact .inl ⟨p', L'', hp, h3, .inr ⟨h1, h4⟩⟩
        · exact .inr ⟨h3, .inr ⟨h1, h4⟩⟩
theorem keysI_del {id : Nat} : ∀ {its : Its S}, (keysI (delF id its)).Sublist (keysI its)
  | [] => List.Sublist.refl _
  | p :: r => by
    simp only [delF, keysI]
    cases Nat.beq p.1 id
    · exact (keysI_del (its := r)).cons_cons _
    · exact (keysI_del (its := r)).cons _
def upd (m : Nat → Option (AI S)) (id : Nat) (x : Option (AI S)) : Nat → Option (AI S) := fun j => if j = id then x else m j
/-- One thing of one's own, at hand. -/
theorem HR.focus {id : Nat} {it : AI S} (h : HR rs ρ I w w0 M F m) (hm : m id = some it) :
    (∃ its L p, id ∉ keysI its ∧ (keysI its).Nodup ∧ (∀ j, lkI j its = upd m id none j) ∧ ItsR rs ρ I w its L ∧ ItR rs ρ I w id it p ∧ St w0 M I (p :: (L ++ F)) w) ∨
    (∃ its L, id ∉ keysI its ∧ (keysI its).Nodup ∧ (∀ j, lkI j its = upd m id none j) ∧ ItsR rs ρ I w its L ∧ RoR rs ρ I w id it ∧ St w0 M I (L ++ F) w) := by
  obtain ⟨its, L, h1, h2, h3, h4⟩ := h
  have hl : ∀ j, lkI j (delF id its) = upd m id none j := fun j => by rw [lkI_del, upd, h2]
  have hk : id ∉ keysI (delF id its) := by rw [← lkI_none, hl]; simp [upd]
  rcases ItsR.out h3 h1 ((h2 id).trans hm) with ⟨p, L', hp, h5, h6⟩ | ⟨h5, h6⟩
  · exact .inl ⟨_, L', p, hk, h1.sublist keysI_del, hl, h6, h5, stPerm h4 (hp.append_right F)⟩
  · exact .inr ⟨_, L, hk, h1.sublist keysI_del, hl, h6, h5, h4⟩
theorem HR.mk' {its : Its S} {L : List It} (h1 : (keysI its).Nodup) (h3 : ItsR rs ρ I w its L) (h4 : St w0 M I (L ++ F) w) : HR rs ρ I w w0 M F (fun j => lkI j its) := ⟨its, L, h1, fun _ => rfl, h3, h4⟩
theorem HR.eq {m' : Nat → Option (AI S)} (h : HR rs ρ I w w0 M F m) (e : ∀ j, m j = m' j) : HR rs ρ I w w0 M F m' := (funext e : m = m') ▸ h
theorem HR.push {its : Its S} {L : List It} {id : Nat} {it : AI S} {p : It} (hk : id ∉ keysI its) (h1 : (keysI its).Nodup) (hl : ∀ j, lkI j its = upd m id none j) (h3 : ItsR rs ρ I w its L) (h5 : ItR rs ρ I w id it p) (h4 : St w0 M I (p :: (L ++ F)) w) :
    HR rs ρ I w w0 M F (upd m id (some it)) :=
  ⟨(id, it) :: its, p :: L, List.nodup_cons.2 ⟨hk, h1⟩, fun j => by
    rw [lkI_cons, hl]; simp only [upd]
    by_cases e : j = id
    · subst e; simp
    · simp [e, Ne.symm e], .inl ⟨p, L, rfl, h5, h3⟩, h4⟩
theorem HR.pushRo {its : Its S} {L : List It} {id : Nat} {it : AI S} (hk : id ∉ keysI its) (h1 : (keysI its).Nodup) (hl : ∀ j, lkI j its = upd m id none j) (h3 : ItsR rs ρ I w its L) (h5 : RoR rs ρ I w id it) (h4 : St w0 M I (L ++ F) w) :
    HR rs ρ I w w0 M F (upd m id (some it)) :=
  ⟨(id, it) :: its, L, List.nodup_cons.2 ⟨hk, h1⟩, fun j => by
    rw [lkI_cons, hl]; simp only [upd]
    by_cases e : j = id
    · subst e; simp
    · simp [e, Ne.symm e], .inr ⟨h5, h3⟩, h4⟩
theorem HR.gone {its : Its S} {L : List It} {id : Nat} (h1 : (keysI its).Nodup) (hl : ∀ j, lkI j its = upd m id none j) (h3 : ItsR rs ρ I w its L) (h4 : St w0 M I (L ++ F) w) :
    HR rs ρ I w w0 M F (upd m id none) := ⟨its, L, h1, hl, h3, h4⟩
/-- Something new. -/
theorem HR.fresh {id : Nat} (h : HR rs ρ I w w0 M F m) (hm : m id = none) :
    ∃ its L, id ∉ keysI its ∧ (keysI its).Nodup ∧ (∀ j, lkI j its = upd m id none j) ∧ ItsR rs ρ I w its L ∧ St w0 M I (L ++ F) w := by
  obtain ⟨its, L, h1, h2, h3, h4⟩ := h
  refine ⟨its, L, by rw [← lkI_none, h2, hm], h1, fun j => ?_, h3, h4⟩
  rw [h2]; simp only [upd]
  by_cases e : j = id
  · rw [if_pos e, e, hm]
  · rw [if_neg e]
theorem HR.mono {m : Nat → Option (AI S)} (hr : Le ρ ρ') (h : HR rs ρ I w w0 M F m) : HR rs ρ' I w w0 M F m := by
  obtain ⟨its, L, h1, h2, h3, h4⟩ := h
  exact ⟨its, L, h1, h2, ItsR.mono hr Kp.refl h3, h4⟩
theorem Le.upd {id : Nat} {x : Value × Nat} (h : ρ id = none) : Le ρ (fun j => if j = id then some x else ρ j) := fun j y hy => by
  show (if j = id then some x else ρ j) = some y
  rw [if_neg (by rintro rfl; rw [h] at hy; cases hy)]; exact hy
end
end Go.VX

/- VX, part e: operations that leave the world alone do what is told of them. -/
namespace Go.VX
noncomputable section
open Go Go.SX Go.RowKit
set_option linter.unusedVariables false
variable {S : Nat → Type} {rs : RS S} {ρ ρ' : Hd} {I I' : Nat → Prop} {w w' w0 : World} {M : Nat → Prop} {F : List It} {m : Nat → Option (AI S)} {cx : Cx S} {P : Program} {β : Type} {r : β} {env : Env S} {its : Its S} {E : List Value}

/-- The seat's tables are right. -/
structure CxOK (P : Program) (cx : Cx S) (rs : RS S) : Prop where
  hT : Tb.ok P cx.T
  rep : ∀ n ρ I w cs x, (rs n).rep I w cs x ↔ RelL rs ρ I w (mkS (cx.si n).cells ((cx.si n).to x)) cs
  to_of : ∀ n y, (cx.si n).to ((cx.si n).of y) = y
  sz : ∀ n, (rs n).n = (cx.si n).cells.length
  flat : ∀ n, (rs n).Flat
  gl : cx.gl = rs.gl
  cmp : ∀ f, cx.cmp f = true → ∃ fn, P.funcs[f]? = some fn ∧ (fn.name == "runtime.NumGoroutine") = false ∧ fn.body.isNone = true ∧ Extern.findNext fn = none ∧ Extern.find fn = some Extern.BytealgCompare.compare
theorem ofVal_ok (v : Value) : Rel rs ρ I w (ofVal v) v := by
  unfold ofVal
  split <;> simp [Rel]
theorem ev_ok {o : Operand} (h : EnvR rs ρ I w env E) : Rel rs ρ I w (evA env o) (ev E o) := by
  cases o with
  | tmp t => exact h t
  | const v => exact ofVal_ok v
  | global g => exact ⟨rfl, fun i xs e => h.gl g i xs e⟩
  | func f => exact ⟨[], [], rfl, rfl, rfl⟩
/-! ### Lists -/
theorem RelL.length : ∀ {l : List (AV S)} {vs : List Value}, RelL rs ρ I w l vs → vs.length = l.length
  | [], vs, h => by rw [show vs = [] from h]; rfl
  | a :: l, _, ⟨v, q, h1, h2, h3⟩ => by rw [h1, List.length_cons, List.length_cons, RelL.length h3]
theorem RelL.get : ∀ {l : List (AV S)} {vs : List Value} {i : Nat} {a : AV S}, RelL rs ρ I w l vs → l[i]? = some a → ∃ v, vs[i]? = some v ∧ Rel rs ρ I w a v
  | [], _, _, _, _, e => by simp at e
  | a :: l, _, 0, b, ⟨v, q, h1, h2, h3⟩, e => by simp at e; subst e; exact ⟨v, by simp [h1], h2⟩
  | a :: l, _, i + 1, b, ⟨v, q, h1, h2, h3⟩, e => by
    obtain ⟨v', h4, h5⟩ := RelL.get (i := i) h3 (by simpa using e)
    exact ⟨v', by simpa [h1] using h4, h5⟩
theorem RelL.drop : ∀ {l : List (AV S)} {vs : List Value} (n : Nat), RelL rs ρ I w l vs → RelL rs ρ I w (l.drop n) (vs.drop n)
  | _, _, 0, h => by simpa using h
  | [], _, n + 1, h => by rw [show _ = [] from h]; simp [RelL]
  | a :: l, _, n + 1, ⟨v, q, h1, h2, h3⟩ => by rw [h1]; simpa using RelL.drop n h3
theorem RelL.take : ∀ {l : List (AV S)} {vs : List Value} (n : Nat), RelL rs ρ I w l vs → RelL rs ρ I w (l.take n) (vs.take n)
  | _, _, 0, h => by simp [RelL]
  | [], _, n + 1, h => by rw [show _ = [] from h]; simp [RelL]
  | a :: l, _, n + 1, ⟨v, q, h1, h2, h3⟩ => by rw [h1]; simp only [List.take_succ_cons]; exact ⟨v, _, rfl, h2, RelL.take n h3⟩
theorem RelL.append : ∀ {l l' : List (AV S)} {vs vs' : List Value}, RelL rs ρ I w l vs → RelL rs ρ I w l' vs' → RelL rs ρ I w (l ++ l') (vs ++ vs')
  | [], _, _, _, h, h' => by rw [show _ = [] from h]; simpa using h'
  | a :: l, _, _, _, ⟨v, q, h1, h2, h3⟩, h' => by rw [h1]; exact ⟨v, _, rfl, h2, RelL.append h3 h'⟩
theorem RelL.nth {vs : List Value} : ∀ {l : List (AV S)}, vs.length = l.length → (∀ (i : Nat) (a : AV S) (v : Value), l[i]? = some a → vs[i]? = some v → Rel rs ρ I w a v) → RelL rs ρ I w l vs := by
  induction vs with
  | nil => intro l hl _; cases l with
    | nil => rfl
    | cons => simp at hl
  | cons v vs ih => intro l hl h; cases l with
    | nil => simp at hl
    | cons a l => exact ⟨v, vs, rfl, h 0 a v rfl rfl, ih (by simpa using hl) fun i b u h1 h2 => h (i + 1) b u (by simpa using h1) (by simpa using h2)⟩
theorem RelL.map {α : Type} {f : α → AV S} {g : α → Value} : ∀ {l : List α}, (∀ x ∈ l, Rel rs ρ I w (f x) (g x)) → RelL rs ρ I w (l.map f) (l.map g)
  | [], _ => rfl
  | x :: l, h => ⟨g x, l.map g, rfl, h x (List.mem_cons_self ..), RelL.map fun y hy => h y (List.mem_cons_of_mem _ hy)⟩
theorem flat_rel {a : AV S} {v : Value} (hf : flatA a = true) (h : Rel rs ρ I w a v) : v.oneCell' = true := by
  cases a <;> simp [flatA] at hf <;> simp only [Rel] at h
  all_goals first
    | (subst h; rfl)
    | (obtain ⟨h, _⟩ := h; subst h; rfl)
    | (obtain ⟨_, _, rfl, _⟩ := h; rfl)
    | (obtain ⟨_, _, _, _, rfl, _⟩ := h; rfl)
    | (obtain ⟨_, _, _, _, _, _, _, rfl, _⟩ := h; rfl)
    | (obtain ⟨_, _, _, rfl, _⟩ := h; rfl)
theorem flatL_rel : ∀ {l : List (AV S)} {vs : List Value}, flatL l = true → RelL rs ρ I w l vs → flatv vs
  | [], _, _, h => by rw [show _ = [] from h]; simp [flatv]
  | a :: l, _, hf, ⟨v, q, h1, h2, h3⟩ => by
    simp only [flatL] at hf
    cases ha : flatA a
    · rw [ha] at hf; simp at hf
    · rw [ha] at hf
      rw [h1]
      intro u hu
      rcases List.mem_cons.1 hu with rfl | hu
      · exact flat_rel ha h2
      · exact flatL_rel hf h3 u hu
theorem mkS_free : ∀ {l : List ShV} {x : ShV.tyL S l} {cs : List Value}, RelL rs ρ I w (mkS l x) cs → RelL rs ρ' I w (mkS l x) cs
  | [], _, _, h => h
  | .int _ :: l, x, _, ⟨v, q, h1, h2, h3⟩ => ⟨v, q, h1, h2, mkS_free (l := l) h3⟩
  | .bl :: l, x, _, ⟨v, q, h1, h2, h3⟩ => ⟨v, q, h1, h2, mkS_free (l := l) h3⟩
  | .str :: l, x, _, ⟨v, q, h1, h2, h3⟩ => ⟨v, q, h1, h2, mkS_free (l := l) h3⟩
  | .ro _ :: l, x, _, ⟨v, q, h1, h2, h3⟩ => ⟨v, q, h1, h2, mkS_free (l := l) h3⟩
  | .any :: l, x, _, ⟨v, q, h1, h2, h3⟩ => ⟨v, q, h1, trivial, mkS_free (l := l) h3⟩
  | .nilp :: l, x, _, ⟨v, q, h1, h2, h3⟩ => ⟨v, q, h1, trivial, mkS_free (l := l) h3⟩
  | .nilf :: l, x, _, ⟨v, q, h1, h2, h3⟩ => ⟨v, q, h1, trivial, mkS_free (l := l) h3⟩
  | .nils :: l, x, _, ⟨v, q, h1, h2, h3⟩ => ⟨v, q, h1, trivial, mkS_free (l := l) h3⟩
  | .roz _ _ :: l, x, _, ⟨v, q, h1, h2, h3⟩ => ⟨v, q, h1, trivial, mkS_free (l := l) h3⟩
  | .own _ :: l, x, _, ⟨v, q, h1, h2, h3⟩ => ⟨v, q, h1, trivial, mkS_free (l := l) h3⟩
  | .part _ :: l, x, _, ⟨v, q, h1, h2, h3⟩ => ⟨v, q, h1, trivial, mkS_free (l := l) h3⟩
  | .ptr _ _ :: l, x, _, ⟨v, q, h1, h2, h3⟩ => ⟨v, q, h1, trivial, mkS_free (l := l) h3⟩
  | .aptr _ :: l, x, _, ⟨v, q, h1, h2, h3⟩ => ⟨v, q, h1, trivial, mkS_free (l := l) h3⟩
  | .stc _ :: l, x, _, ⟨v, q, h1, h2, h3⟩ => ⟨v, q, h1, trivial, mkS_free (l := l) h3⟩
  | .arr _ _ :: l, x, _, ⟨v, q, h1, h2, h3⟩ => ⟨v, q, h1, trivial, mkS_free (l := l) h3⟩
  | .agg _ :: l, x, _, ⟨v, q, h1, h2, h3⟩ => ⟨v, q, h1, trivial, mkS_free (l := l) h3⟩
  | .tup _ :: l, x, _, ⟨v, q, h1, h2, h3⟩ => ⟨v, q, h1, trivial, mkS_free (l := l) h3⟩
  | .fn _ _ _ :: l, x, _, ⟨v, q, h1, h2, h3⟩ => ⟨v, q, h1, trivial, mkS_free (l := l) h3⟩
  | .rof _ :: l, x, _, ⟨v, q, h1, h2, h3⟩ => ⟨v, q, h1, trivial, mkS_free (l := l) h3⟩
  | .yld _ :: l, x, _, ⟨v, q, h1, h2, h3⟩ => ⟨v, q, h1, trivial, mkS_free (l := l) h3⟩
  | .intc _ _ :: l, x, _, ⟨v, q, h1, h2, h3⟩ => ⟨v, q, h1, trivial, mkS_free (l := l) h3⟩
  | .blc _ :: l, x, _, ⟨v, q, h1, h2, h3⟩ => ⟨v, q, h1, trivial, mkS_free (l := l) h3⟩
  | .lits _ _ :: l, x, _, ⟨v, q, h1, h2, h3⟩ => ⟨v, q, h1, trivial, mkS_free (l := l) h3⟩
theorem vw_ok (ok : CxOK P cx rs) {c : TC} {x : c.D S} {cs : List Value} : (rpC rs c).rep I w cs x ↔ RelL rs ρ I w (vwC cx c x) cs := by
  cases c with
  | int k => simp [rpC, Rp.int, vwC, RelL, Rel]
  | bool => simp [rpC, Rp.bool, vwC, RelL, Rel]
  | str => simp [rpC, Rp.str, vwC, RelL, Rel]
  | sl c =>
    simp only [rpC, rpSl, vwC, RelL, Rel, nzO, nzOk, true_and]
    constructor
    · rintro ⟨A, cap, h1, h2, h3, h4⟩; exact ⟨_, [], h1, ⟨A, cap, rfl, h2, h3, h4⟩, rfl⟩
    · rintro ⟨v, q, h1, ⟨A, cap, h2, h3, h4, h5⟩, h6⟩; exact ⟨A, cap, by rw [h1, h2, h6], h3, h4, h5⟩
  | st n => exact ok.rep n ρ I w cs x
theorem szOf_eq (ok : CxOK P cx rs) (c : TC) {x : c.D S} {cs : List Value} (h : (rpC rs c).rep I w cs x) : cs.length = (rpC rs c).n := (rpC rs c).len h

/-! ### Numbers, strings, bools -/
theorem ite_none {α : Type} {p : Prop} [Decidable p] {a : Option α} {r : α} (h : (if p then a else none) = some r) : p ∧ a = some r := by
  split at h
  · exact ⟨by assumption, h⟩
  · cases h
theorem bif_none {α : Type} {b : Bool} {a : Option α} {r : α} (h : (bif b then a else none) = some r) : b = true ∧ a = some r := by
  cases b
  · cases h
  · exact ⟨rfl, h⟩
theorem intA_ok {op : BinOp} {t : Nat} {i : IntKind} {a b : Int} {k : AV S → Option β} (h : intA op i a b k = some r) :
    ∃ x, k x = some r ∧ ∃ v c, binV cx.T op t (.int i a) (.int i b) = some (v, c) ∧ (∀ w, c.holds w) ∧ ∀ ρ I w, Rel rs ρ I w x v := by
  cases op <;> simp only [intA] at h
  case add => exact ⟨_, h, _, .tt, by simp only [binV, if_true] <;> rfl, fun w => trivial, fun _ _ _ => rfl⟩
  case sub => exact ⟨_, h, _, .tt, by simp only [binV, if_true] <;> rfl, fun w => trivial, fun _ _ _ => rfl⟩
  case mul => exact ⟨_, h, _, .tt, by simp only [binV, if_true] <;> rfl, fun w => trivial, fun _ _ _ => rfl⟩
  case quo => obtain ⟨h1, h2⟩ := ite_none h; exact ⟨_, h2, _, .ne0 b, by simp only [binV, if_true] <;> rfl, fun w => h1, fun _ _ _ => rfl⟩
  case rem => obtain ⟨h1, h2⟩ := ite_none h; exact ⟨_, h2, _, .ne0 b, by simp only [binV, if_true] <;> rfl, fun w => h1, fun _ _ _ => rfl⟩
  case and => simp only [andI, seen_eq] at h; exact ⟨_, h, _, .tt, by simp only [binV, if_true] <;> rfl, fun w => trivial, fun _ _ _ => rfl⟩
  case or => simp only [orI, seen_eq] at h; exact ⟨_, h, _, .tt, by simp only [binV, if_true] <;> rfl, fun w => trivial, fun _ _ _ => rfl⟩
  case xor => simp only [xorI, seen_eq] at h; exact ⟨_, h, _, .tt, by simp only [binV, if_true] <;> rfl, fun w => trivial, fun _ _ _ => rfl⟩
  case andNot => simp only [andNotI, seen_eq] at h; exact ⟨_, h, _, .tt, by simp only [binV, if_true] <;> rfl, fun w => trivial, fun _ _ _ => rfl⟩
  case eql => exact ⟨_, h, _, .tt, by simp only [binV, if_true] <;> rfl, fun w => trivial, fun _ _ _ => eq_v⟩
  case neq => exact ⟨_, h, _, .tt, by simp only [binV, if_true] <;> rfl, fun w => trivial, fun _ _ _ => ne_v⟩
  case lss => exact ⟨_, h, _, .tt, by simp only [binV, if_true] <;> rfl, fun w => trivial, fun _ _ _ => rfl⟩
  case leq => exact ⟨_, h, _, .tt, by simp only [binV, if_true] <;> rfl, fun w => trivial, fun _ _ _ => rfl⟩
  case gtr => exact ⟨_, h, _, .tt, by simp only [binV, if_true] <;> rfl, fun w => trivial, fun _ _ _ => rfl⟩
  case geq => exact ⟨_, h, _, .tt, by simp only [binV, if_true] <;> rfl, fun w => trivial, fun _ _ _ => rfl⟩
  all_goals cases h
theorem strA_ok {op : BinOp} {t : Nat} {a b : ByteArray} {k : AV S → Option β} (h : strA op a b k = some r) :
    ∃ x, k x = some r ∧ ∃ v c, binV cx.T op t (.string a) (.string b) = some (v, c) ∧ (∀ w, c.holds w) ∧ ∀ ρ I w, Rel rs ρ I w x v := by
  cases op <;> simp only [strA] at h
  case add => obtain ⟨h1, h2⟩ := ite_none h; exact ⟨_, h2, _, .le (a.size + b.size) 9223372036854775807, rfl, fun w => h1, fun _ _ _ => rfl⟩
  case eql => exact ⟨_, h, _, .tt, rfl, fun w => trivial, fun _ _ _ => beq_v⟩
  case neq => exact ⟨_, h, _, .tt, rfl, fun w => trivial, fun _ _ _ => bne_v⟩
  case lss => exact ⟨_, h, _, .tt, rfl, fun w => trivial, fun _ _ _ => rfl⟩
  case leq => exact ⟨_, h, _, .tt, rfl, fun w => trivial, fun _ _ _ => rfl⟩
  case gtr => exact ⟨_, h, _, .tt, rfl, fun w => trivial, fun _ _ _ => rfl⟩
  case geq => exact ⟨_, h, _, .tt, rfl, fun w => trivial, fun _ _ _ => rfl⟩
  all_goals cases h
theorem nilA_ok {op : BinOp} {is : Bool} {k : AV S → Option β} (h : nilA op is k = some r) : (op = .eql ∧ k (.bl is) = some r) ∨ (op = .neq ∧ k (.bl (!is)) = some r) := by
  cases op <;> simp only [nilA] at h
  case eql => exact .inl ⟨rfl, h⟩
  case neq => exact .inr ⟨rfl, h⟩
  all_goals cases h
theorem nilSl_ok {op : BinOp} {z : Nz} {n : Nat} {k : AV S → Option β} (h : nilSl op z n k = some r) :
    ∃ is : Bool, ((op = .eql ∧ k (.bl is) = some r) ∨ (op = .neq ∧ k (.bl (!is)) = some r)) ∧ ∀ A : Option Addr, nzOk z A → (A = none → n = 0) → A.isNone = is := by
  cases z <;> simp only [nilSl] at h
  · exact ⟨true, nilA_ok h, fun A h1 _ => by simp [show A = none from h1]⟩
  · refine ⟨false, nilA_ok h, fun A h1 _ => ?_⟩
    cases A
    · exact absurd rfl h1
    · rfl
  · split at h
    · cases h
    · rename_i hn
      refine ⟨false, nilA_ok h, fun A _ h2 => ?_⟩
      cases A
      · exact absurd (h2 rfl) hn
      · rfl
  · exact ⟨_, nilA_ok h, fun A h1 _ => h1⟩
theorem toB_ok {v : AV S} {k : Bool → Option β} (h : toB v k = some r) : ∃ b, k b = some r ∧ ∀ ρ I w v', Rel rs ρ I w v v' → v' = .bool b := by
  cases v <;> simp only [toB] at h <;> first | (cases h; done) | exact ⟨_, h, fun _ _ _ _ h => h⟩
theorem elems_none {c : TC} {A : Option Addr} {xs : List (c.D S)} (e : Elems (rpC rs c) I w A xs) (h : A = none) : xs.length = 0 := by
  subst h; rw [Elems.none_nil e]; rfl
/-- A slice of one's own, or one that was: its address is none only if it has no elements. -/
theorem HR.sl {id t sz : Nat} {c : TC} {xs : List (c.D S)} {z : Nz} (h : HR rs ρ I w w0 M F m) (hm : m id = some (.sl c t sz xs z)) :
    ∃ A cap, ρ id = some (.slice A xs.length cap, sz) ∧ nzOk z A ∧ (A = none → xs.length = 0) ∧ sz = (rpC rs c).n ∧ (xs.length ≤ cap ∧ cap ≤ 9223372036854775807) ∧ ((A = none ∧ cap = 0) ∨ ∃ b, A = some ⟨b, 0, none⟩) := by
  rcases h.focus hm with ⟨its, L, p, _, _, _, _, ⟨A, cap, cl, h1, rfl, h3, h4, h5⟩, s⟩ | ⟨_, _, _, _, _, _, h, _⟩
  · have hh := s.here _ (List.mem_cons_self ..)
    have hc := row_hc hh
    refine ⟨A, cap, h1, h5, fun ha => ?_, h3, hc, ?_⟩
    · subst ha
      obtain ⟨_, ⟨h6, h7⟩ | ⟨g, cap', cur, h6, _⟩⟩ := hh
      · exact h7
      · cases h6
    · obtain ⟨_, ⟨h6, h7⟩ | ⟨g, cap', cur, h6, _⟩⟩ := hh
      · simp only [Value.slice.injEq] at h6; exact .inl ⟨h6.1, h6.2.2⟩
      · simp only [Value.slice.injEq] at h6; exact .inr ⟨g, h6.1⟩
  · exact h.elim
theorem HR.ro {id : Nat} {c : TC} {xs : List (c.D S)} {z : Nz} (h : HR rs ρ I w w0 M F m) (hm : m id = some (.ro c xs z)) : RoR rs ρ I w id (.ro c xs z) := by
  rcases h.focus hm with ⟨its, L, p, _, _, _, _, h, s⟩ | ⟨_, _, _, _, _, _, h, _⟩
  · exact h.elim
  · exact h
theorem HR.arr {id t N : Nat} {i : IntKind} {xs : List Int} (h : HR rs ρ I w w0 M F m) (hm : m id = some (.arr i t N xs)) :
    ∃ b, ρ id = some (.slice (some ⟨b, 0, none⟩) N N, 1) ∧ xs.length = N ∧ ∃ its L, id ∉ keysI its ∧ (keysI its).Nodup ∧ (∀ j, lkI j its = upd m id none j) ∧ ItsR rs ρ I w its L ∧ St w0 M I (.sl (.slice (some ⟨b, 0, none⟩) N N) t 1 N (xs.map (Value.int i)) :: (L ++ F)) w := by
  rcases h.focus hm with ⟨its, L, p, q1, q2, q3, q4, ⟨b, h1, rfl, h3⟩, s⟩ | ⟨_, _, _, _, _, _, h, _⟩
  · exact ⟨b, h1, h3, its, L, q1, q2, q3, q4, s⟩
  · exact h.elim
theorem HR.blk {id t : Nat} {cs : List (AV S)} (h : HR rs ρ I w w0 M F m) (hm : m id = some (.blk t cs)) :
    ∃ b vs sz, ρ id = some (.pointer (some ⟨b, 0, none⟩), sz) ∧ RelL rs ρ I w cs vs ∧ flatv vs ∧ ∃ its L, id ∉ keysI its ∧ (keysI its).Nodup ∧ (∀ j, lkI j its = upd m id none j) ∧ ItsR rs ρ I w its L ∧ St w0 M I (.blk b (.cells vs.toArray t (0, 0)) :: (L ++ F)) w := by
  rcases h.focus hm with ⟨its, L, p, q1, q2, q3, q4, ⟨b, vs, sz, h1, rfl, h3, h4⟩, s⟩ | ⟨_, _, _, _, _, _, h, _⟩
  · exact ⟨b, vs, sz, h1, h3, h4, its, L, q1, q2, q3, q4, s⟩
  · exact h.elim
theorem binA_ok {op : BinOp} {t : Nat} {x y : AV S} {k : AV S → Option β} (h : binA cx its op t x y k = some r) :
    ∃ a, k a = some r ∧ ∀ {ρ : Hd} {I : Nat → Prop} {w w0 : World} {M : Nat → Prop} {F : List It} {m : Nat → Option (AI S)} {x' y' : Value}, Rel rs ρ I w x x' → Rel rs ρ I w y y' → (∀ id, x = .own id → m id = lkI id its) → HR rs ρ I w w0 M F m →
      ∃ v c, binV cx.T op t x' y' = some (v, c) ∧ c.holds w ∧ Rel rs ρ I w a v := by
  unfold binA at h
  split at h
  · -- numbers
    rename_i j b
    split at h
    · rename_i i a
      split at h
      · obtain ⟨h1, h2⟩ := ite_none h
        exact ⟨_, h2, fun hx hy _ _ => by cases hx; cases hy; exact ⟨_, _, rfl, h1, rfl⟩⟩
      · obtain ⟨h1, h2⟩ := ite_none h
        exact ⟨_, h2, fun hx hy _ _ => by cases hx; cases hy; exact ⟨_, _, rfl, h1, rfl⟩⟩
      · obtain ⟨rfl, h2⟩ := ite_none h
        obtain ⟨a', h3, v, c, h4, h5, h6⟩ := intA_ok (rs := rs) (cx := cx) (t := t) h2
        exact ⟨a', h3, fun hx hy _ _ => by cases hx; cases hy; exact ⟨v, c, h4, h5 _, h6 _ _ _⟩⟩
    · cases h
  · split at h
    · obtain ⟨a', h3, v, c, h4, h5, h6⟩ := strA_ok (rs := rs) (cx := cx) (t := t) h
      exact ⟨a', h3, fun hx hy _ _ => by cases hx; cases hy; exact ⟨v, c, h4, h5 _, h6 _ _ _⟩⟩
    · cases h
  · -- nil pointers
    split at h
    · rename_i e1 e2
      rcases nilA_ok h with ⟨rfl, h2⟩ | ⟨rfl, h2⟩ <;> exact ⟨_, h2, fun hx hy _ _ => by cases hx; cases hy; exact ⟨_, .tt, by simp only [binV, e1, e2] <;> rfl, trivial, rfl⟩⟩
    · rename_i e1 e2
      rcases nilA_ok h with ⟨rfl, h2⟩ | ⟨rfl, h2⟩ <;> exact ⟨_, h2, fun hx hy _ _ => by obtain ⟨_, _, rfl, _⟩ := hx; cases hy; exact ⟨_, .tt, by simp only [binV, e1, e2] <;> rfl, trivial, rfl⟩⟩
    · rename_i e1 e2
      rcases nilA_ok h with ⟨rfl, h2⟩ | ⟨rfl, h2⟩ <;> exact ⟨_, h2, fun hx hy _ _ => by obtain ⟨_, _, _, _, rfl, _⟩ := hx; cases hy; exact ⟨_, .tt, by simp only [binV, e1, e2] <;> rfl, trivial, rfl⟩⟩
    · rename_i e1 e2
      rcases nilA_ok h with ⟨rfl, h2⟩ | ⟨rfl, h2⟩ <;> exact ⟨_, h2, fun hx hy _ _ => by obtain ⟨_, _, _, rfl, _⟩ := hx; cases hy; exact ⟨_, .tt, by simp only [binV, e1, e2] <;> rfl, trivial, rfl⟩⟩
    · rename_i e1 e2
      rcases nilA_ok h with ⟨rfl, h2⟩ | ⟨rfl, h2⟩ <;> exact ⟨_, h2, fun hx hy _ _ => by obtain ⟨_, _, _, _, rfl, _⟩ := hx; cases hy; exact ⟨_, .tt, by simp only [binV, e1, e2] <;> rfl, trivial, rfl⟩⟩
    · cases h
  · split at h
    · rename_i e1 e2
      rcases nilA_ok h with ⟨rfl, h2⟩ | ⟨rfl, h2⟩ <;> exact ⟨_, h2, fun hx hy _ _ => by cases hx; cases hy; exact ⟨_, .tt, by simp only [binV, e1, e2] <;> rfl, trivial, rfl⟩⟩
    · rename_i e1 e2
      rcases nilA_ok h with ⟨rfl, h2⟩ | ⟨rfl, h2⟩ <;> exact ⟨_, h2, fun hx hy _ _ => by obtain ⟨_, _, rfl, _⟩ := hx; cases hy; exact ⟨_, .tt, by simp only [binV, e1, e2] <;> rfl, trivial, rfl⟩⟩
    · cases h
  · split at h
    · rename_i e1 e2
      rcases nilA_ok h with ⟨rfl, h2⟩ | ⟨rfl, h2⟩ <;> exact ⟨_, h2, fun hx hy _ _ => by cases hx; cases hy; exact ⟨_, .tt, by simp only [binV, e1, e2] <;> rfl, trivial, rfl⟩⟩
    · rename_i e1 e2
      obtain ⟨is, h1, h2⟩ := nilSl_ok h
      rcases h1 with ⟨rfl, h3⟩ | ⟨rfl, h3⟩ <;> exact ⟨_, h3, fun hx hy _ _ => by
        obtain ⟨A, cap, rfl, _, he, hz⟩ := hx; cases hy
        exact ⟨_, .tt, by simp only [binV, e1, e2] <;> rfl, trivial, by simp only [Rel]; rw [h2 A hz.1 (elems_none he)]⟩⟩
    · rename_i id e1 e2
      split at h
      · rename_i e3
        obtain ⟨is, h1, h2⟩ := nilSl_ok h
        rcases h1 with ⟨rfl, h3⟩ | ⟨rfl, h3⟩ <;> exact ⟨_, h3, fun hx hy hm hr => by
          obtain ⟨A, n, c, sz, rfl, hρ⟩ := hx; cases hy
          obtain ⟨A', cap, h4, h5, h6, _⟩ := hr.sl ((hm _ rfl).trans e3)
          rw [hρ] at h4; cases h4
          exact ⟨_, .tt, by simp only [binV, e1, e2] <;> rfl, trivial, by simp only [Rel]; rw [h2 A h5 h6]⟩⟩
      · rename_i e3
        obtain ⟨is, h1, h2⟩ := nilSl_ok h
        rcases h1 with ⟨rfl, h3⟩ | ⟨rfl, h3⟩ <;> exact ⟨_, h3, fun hx hy hm hr => by
          obtain ⟨A, n, c, sz, rfl, hρ⟩ := hx; cases hy
          obtain ⟨A', cap, sz', h4, _, _, h5, h6, _⟩ := hr.ro ((hm _ rfl).trans e3)
          rw [hρ] at h4; cases h4
          exact ⟨_, .tt, by simp only [binV, e1, e2] <;> rfl, trivial, by simp only [Rel]; rw [h2 A h6 (elems_none h5)]⟩⟩
      · cases h
    · cases h
  · split at h
    · rename_i e1 e2
      obtain ⟨a, h1, h2⟩ := toB_ok (rs := rs) h
      obtain ⟨b, h3, h4⟩ := toB_ok (rs := rs) h1
      split at h3
      · exact ⟨_, h3, fun hx hy _ _ => by cases h2 _ _ _ _ hx; cases h4 _ _ _ _ hy; exact ⟨_, .tt, by simp only [binV, e1, e2] <;> rfl, trivial, beq_v⟩⟩
      · exact ⟨_, h3, fun hx hy _ _ => by cases h2 _ _ _ _ hx; cases h4 _ _ _ _ hy; exact ⟨_, .tt, by simp only [binV, e1, e2] <;> rfl, trivial, bne_v⟩⟩
      · cases h3
    · cases h
theorem unA_ok {op : UnOp} {x : AV S} {k : AV S → Option β} (h : unA op x k = some r) :
    ∃ a, k a = some r ∧ ∀ {ρ : Hd} {I : Nat → Prop} {w : World} {x' : Value}, Rel rs ρ I w x x' → ∃ v, unV op x' = some v ∧ Rel rs ρ I w a v := by
  unfold unA at h
  split at h
  · exact ⟨_, h, fun hx => by cases hx; exact ⟨_, rfl, rfl⟩⟩
  · simp only [cplI, seen_eq] at h; exact ⟨_, h, fun hx => by cases hx; exact ⟨_, rfl, rfl⟩⟩
  · exact ⟨_, h, fun hx => by cases hx; exact ⟨_, rfl, not_b⟩⟩
  · exact ⟨_, h, fun hx => by cases hx; exact ⟨_, rfl, not_v⟩⟩
  · cases h
end
end Go.VX

/- VX, part f: places, parts of slices, structs. -/
namespace Go.VX
noncomputable section
open Go Go.SX Go.RowKit
set_option linter.unusedVariables false
variable {S : Nat → Type} {rs : RS S} {ρ ρ' : Hd} {I I' : Nat → Prop} {w w' w0 : World} {M : Nat → Prop} {F : List It} {m : Nat → Option (AI S)} {cx : Cx S} {P : Program} {β : Type} {r : β} {env : Env S} {its : Its S} {E : List Value}

theorem szOf_rp (ok : CxOK P cx rs) (c : TC) : szOf cx c = (rpC rs c).n := by
  cases c <;> simp [szOf, shC, rpC, Rp.int, Rp.bool, Rp.str, rpSl]
  rw [ok.sz]
theorem partA_ok {t off : Nat} {cs : List (AV S)} {k : AV S → Option β} (h : partA cx t cs off k = some r) :
    ∃ a, k a = some r ∧ (cx.T t).known = true ∧ (((cx.T t).td.agg = some true ∧ off + (cx.T t).size ≤ cs.length ∧ a = .agg ((cs.drop off).take (cx.T t).size)) ∨ ((cx.T t).td.agg = some false ∧ cs[off]? = some a)) := by
  unfold partA at h
  split at h
  · rename_i e1 e2
    split at h
    · obtain ⟨h1, h2⟩ := bif_none h
      exact ⟨_, h2, e1, .inl ⟨e2, Nat.le_of_ble_eq_true h1, rfl⟩⟩
    · cases h
  · rename_i e1 e2
    split at h
    · rename_i v e3
      exact ⟨_, h, e1, .inr ⟨e2, e3⟩⟩
    · cases h
  · cases h
/-- What a load finds. -/
def Finds (T : Tb) (t : Nat) (w : World) (a' v : Value) : Prop := (T t).known = true ∧ ∃ ad, a' = .pointer (some ad) ∧
  (((T t).td.agg = some true ∧ ∃ cs, v = .agg cs ∧ (C.cells ad cs.toList (T t).size).holds w) ∨ ((T t).td.agg = some false ∧ w.cell? ad = some v))
theorem Finds.step {t : Nat} {x : Operand} {v : Value} (h : Finds cx.T t w (ev E x) v) : ∃ ld c, stepOp cx.T E (.load t x) ld = some (v, c) ∧ c.holds w := by
  obtain ⟨h1, ad, h2, ⟨h3, cs, rfl, h4⟩ | ⟨h3, h4⟩⟩ := h
  · exact ⟨.agg cs, _, by simp only [stepOp, h1, h3, h2], h4⟩
  · exact ⟨v, .cell ad v, by simp only [stepOp, h1, h3, h2], h4⟩
theorem part_finds {t b o off : Nat} {cs : List (AV S)} {vs : List Value} {k : AV S → Option β} (h : partA cx t cs off k = some r) (hat : At w b o vs) (hr : RelL rs ρ I w cs vs) :
    ∃ a, k a = some r ∧ ∃ v, Finds cx.T t w (.pointer (some ⟨b, o + off, none⟩)) v ∧ Rel rs ρ I w a v := by
  obtain ⟨a, h1, h2, ⟨h3, h4, rfl⟩ | ⟨h3, h4⟩⟩ := partA_ok h
  · have hl := hr.length
    exact ⟨_, h1, .agg ((vs.drop off).take (cx.T t).size).toArray, ⟨h2, _, rfl, .inl ⟨h3, _, rfl, at_cells hat rfl (by simp; omega)⟩⟩, _, rfl, (hr.drop off).take _⟩
  · obtain ⟨v, h5, h6⟩ := hr.get h4
    exact ⟨_, h1, v, ⟨h2, _, rfl, .inr ⟨h3, hat _ _ h5⟩⟩, h6⟩
theorem partA_fix {t off : Nat} {cs : List (AV S)} {k : AV S → Option β} (h : partA cx t cs off k = some r) : ∃ a, partA cx t cs off some = some a ∧ k a = some r := by
  unfold partA at h ⊢
  split at h
  · split at h
    · obtain ⟨h1, h2⟩ := bif_none h
      exact ⟨_, by rw [h1]; rfl, h2⟩
    · cases h
  · split at h
    · exact ⟨_, rfl, h⟩
    · cases h
  · cases h
theorem St.atBlk {b t : Nat} {vs : List Value} {L : List It} (s : St w0 M I (.blk b (.cells vs.toArray t (0, 0)) :: L) w) : At w b 0 vs := fun j v hv => by
  rw [Nat.zero_add]; exact s.cell (i := 0) rfl hv
theorem getI_some {τ : Type} {xs : List τ} {i : Int} {k : τ → Option β} (h : (getI xs i).bind k = some r) : ∃ x, k x = some r ∧ xs[i.toNat]? = some x ∧ (0 ≤ i ∧ i < (xs.length : Int)) := by
  obtain ⟨x, h1, h2⟩ := bindS h
  exact ⟨x, h2, (getS h1).2, (getS h1).1⟩
theorem loadA_ok (ok : CxOK P cx rs) {t : Nat} {a : AV S} {k : AV S → List Nat → Option β} (h : loadA cx its t a k = some r) :
    ∃ v rd, k v rd = some r ∧ ∀ {ρ : Hd} {I : Nat → Prop} {w w0 : World} {M : Nat → Prop} {F : List It} {m : Nat → Option (AI S)} {a' : Value}, Rel rs ρ I w a a' → (∀ id ∈ rd, m id = lkI id its) → HR rs ρ I w w0 M F m → ∃ v', Finds cx.T t w a' v' ∧ Rel rs ρ I w v v' := by
  unfold loadA at h
  split at h
  · rename_i id off
    split at h
    · rename_i bt cs e
      obtain ⟨a, h1, h2⟩ := partA_fix h
      refine ⟨a, _, h2, fun hx hm hr => ?_⟩
      obtain ⟨b, vs, sz, h3, h4, _, _, _, _, _, _, _, s⟩ := hr.blk ((hm id (by simp)).trans e)
      obtain ⟨b', sz', rfl, h5⟩ := hx
      rw [h3] at h5
      cases h5
      obtain ⟨a2, h6, v', h7, h8⟩ := part_finds h1 (St.atBlk s) h4
      cases h6
      rw [Nat.zero_add] at h7
      exact ⟨v', h7, h8⟩
    · cases h
  · rename_i c x off
    obtain ⟨a, h1, h2⟩ := partA_fix h
    refine ⟨a, _, h2, fun hx hm hr => ?_⟩
    obtain ⟨b, o, cs, rfl, h3, h4, h5⟩ := hx
    obtain ⟨a2, h6, v', h7, h8⟩ := part_finds h1 h4 ((vw_ok ok).1 h3)
    cases h6
    exact ⟨v', h7, h8⟩
  · rename_i id i off
    split at h
    · rename_i c bt sz xs z e
      obtain ⟨x, h1, h2, _⟩ := getI_some h
      obtain ⟨a, h3, h4⟩ := partA_fix h1
      refine ⟨a, _, h4, fun hx hm hr => ?_⟩
      obtain ⟨b, n, cap, sz', rfl, h5⟩ := hx
      rcases hr.focus ((hm id (by simp)).trans e) with ⟨_, L, p, _, _, _, _, ⟨A, cap', cl, h6, rfl, h7, h8, _⟩, s⟩ | ⟨_, _, _, _, _, _, hf, _⟩
      · rw [h5] at h6; cases h6
        obtain ⟨_, cs, h9, h10⟩ := St.elem s (i := 0) rfl rfl h8 h2
        obtain ⟨a2, h11, v', h12, h13⟩ := part_finds h3 (h10 _ rfl) ((vw_ok ok).1 h9)
        cases h11
        rw [← h7] at h12
        exact ⟨v', h12, h13⟩
      · exact hf.elim
    · rename_i c xs z e
      obtain ⟨x, h1, h2, _⟩ := getI_some h
      obtain ⟨a, h3, h4⟩ := partA_fix h1
      refine ⟨a, _, h4, fun hx hm hr => ?_⟩
      obtain ⟨b, n, cap, sz', rfl, h5⟩ := hx
      obtain ⟨A, cap', sz, h6, h7, h8, h9, _⟩ := hr.ro ((hm id (by simp)).trans e)
      rw [h5] at h6; cases h6
      obtain ⟨cs, h10, h11⟩ := h9.get h2
      obtain ⟨a2, h12, v', h13, h14⟩ := part_finds h3 h11 ((vw_ok ok).1 h10)
      cases h12
      rw [← h7] at h13
      exact ⟨v', h13, h14⟩
    · rename_i j bt N xs e
      obtain ⟨x, h1, h2, _⟩ := getI_some h
      obtain ⟨a, h3, h4⟩ := partA_fix h1
      refine ⟨a, _, h4, fun hx hm hr => ?_⟩
      obtain ⟨b, n, cap, sz', rfl, h5⟩ := hx
      obtain ⟨b', h6, h7, _, L, _, _, _, _, s⟩ := hr.arr ((hm id (by simp)).trans e)
      rw [h5] at h6; cases h6
      obtain ⟨_, cs, h9, h10⟩ := St.elem s (i := 0) (r := Rp.int j) rfl h7.symm repl_map h2
      obtain ⟨a2, h11, v', h12, h13⟩ := part_finds (rs := rs) (ρ := _) h3 (h10 _ rfl) (show RelL rs _ _ _ [AV.int j x] cs from ⟨_, [], h9, rfl, rfl⟩)
      cases h11
      exact ⟨v', h12, h13⟩
    · cases h
  · rename_i id
    split at h
    · rename_i i bt N xs N' e' e e1 e2
      obtain ⟨h1, h2⟩ := bif_none h
      refine ⟨_, _, h2, fun hx hm hr => ?_⟩
      obtain ⟨b, n, c, sz, rfl, h5⟩ := hx
      obtain ⟨b', h6, h7, _, L, _, _, _, _, s⟩ := hr.arr ((hm id (by simp)).trans e)
      rw [h5] at h6; cases h6
      refine ⟨.agg (xs.map (Value.int i)).toArray, ⟨e1, _, rfl, .inl ⟨by rw [e2]; rfl, _, rfl, ?_⟩⟩, rfl, h7⟩
      rw [Nat.eq_of_beq_eq_true h1]
      exact St.arr s (i := 0) rfl repl_map h7.symm
    · cases h
  · cases h

/-! ### Parts of slices -/
/-- What a part of one's own is. -/
def PartR (ρ : Hd) (id : Nat) (lo hi : Int) (v : Value) : Prop := ∃ A n c sz A' m d, v = .slice A' m d ∧ ρ id = some (.slice A n c, sz) ∧
      ((A = none ∧ A' = none ∧ m = 0 ∧ d = 0 ∧ lo = 0 ∧ hi = 0) ∨ ∃ b o, A = some ⟨b, 0, none⟩ ∧ A' = some ⟨b, o, none⟩ ∧ Pt o m d sz lo hi n ∧ d + lo.toNat = c ∧ (lo = 0 → o = 0))
theorem PartR.own {id t sz : Nat} {c : TC} {xs : List (c.D S)} {z : Nz} {v : Value} (hx : Rel rs ρ I w (.own id : AV S) v) (h : HR rs ρ I w w0 M F m) (hm : m id = some (.sl c t sz xs z)) : PartR ρ id 0 xs.length v := by
  obtain ⟨A, n, cap, sz', rfl, h1⟩ := hx
  obtain ⟨A', cap', h2, _, h3, _, h4, h5⟩ := h.sl hm
  rw [h1] at h2; cases h2
  refine ⟨_, _, _, _, _, _, _, rfl, h1, ?_⟩
  rcases h5 with ⟨rfl, rfl⟩ | ⟨b, rfl⟩
  · exact .inl ⟨rfl, rfl, h3 rfl, rfl, rfl, by rw [h3 rfl]; rfl⟩
  · exact .inr ⟨b, 0, rfl, rfl, Pt.whole h4.1, rfl, fun _ => rfl⟩
theorem PartR.arr {id t N : Nat} {i : IntKind} {xs : List Int} {v : Value} (hx : Rel rs ρ I w (.own id : AV S) v) (h : HR rs ρ I w w0 M F m) (hm : m id = some (.arr i t N xs)) : PartR ρ id 0 N v := by
  obtain ⟨A, n, cap, sz', rfl, h1⟩ := hx
  obtain ⟨b, h2, _⟩ := h.arr hm
  rw [h1] at h2; cases h2
  exact ⟨_, _, _, _, _, _, _, rfl, h1, .inr ⟨b, 0, rfl, rfl, Pt.whole (Nat.le_refl _), rfl, fun _ => rfl⟩⟩
theorem partSm {b o m0 size N C : Nat} {l h mx l0 h0 : Int} (p : Pt o N C size l0 h0 m0) (g : 0 ≤ l ∧ l ≤ h ∧ h ≤ h0 - l0 ∧ h ≤ mx ∧ mx ≤ (C : Int)) :
    ∃ o', cutA (some ⟨b, o, none⟩) l.toNat mx.toNat size = some ⟨b, o', none⟩ ∧ Pt o' (h.toNat - l.toNat) (mx.toNat - l.toNat) size (l0 + l) (l0 + h) m0 ∧ (l = 0 → o' = o) := by
  obtain ⟨g1, g2, g3, g4, g5⟩ := g
  have hl := p.len; have hc := p.cap; have hlo := p.lo; have hle := p.le; have hhi := p.hi
  by_cases e : mx.toNat = l.toNat
  · refine ⟨o, by rw [cutA, if_pos e], ⟨by omega, by omega, fun hn => absurd (show h.toNat - l.toNat = 0 by omega) hn, by omega, by omega, by omega⟩, fun _ => rfl⟩
  · refine ⟨o + l.toNat * size, by rw [cutA, if_neg e]; rfl, ⟨by omega, by omega, fun hn => ?_, by omega, by omega, by omega⟩, fun e0 => by rw [e0]; simp⟩
    rw [p.off (by omega), show (l0 + l).toNat = l0.toNat + l.toNat by omega, Nat.add_mul]
theorem elOk_ok {T : Tb} {t n : Nat} (h : elOk T t n = true) : ∃ e, (T t).known = true ∧ (T t).td = .slice e ∧ (T e).known = true ∧ (T e).size = n := by
  unfold elOk at h
  split at h
  · rename_i e1 e2
    simp only [Bool.and_eq_true] at h
    exact ⟨_, e1, e2, h.1, Nat.eq_of_beq_eq_true h.2⟩
  · cases h
theorem arOk_ok {T : Tb} {t N n : Nat} (h : arOk T t N n = true) : ∃ e, (T t).known = true ∧ (T t).td = .arr N e ∧ (T e).known = true ∧ (T e).size = n := by
  unfold arOk at h
  split at h
  · rename_i e1 e2
    simp only [Bool.and_eq_true] at h
    have := Nat.eq_of_beq_eq_true h.2
    subst this
    exact ⟨_, e1, e2, h.1.1, Nat.eq_of_beq_eq_true h.1.2⟩
  · cases h
/-- What a cut asks, and yields. -/
def Cuts (size : Nat) (A : Option Addr) (len cap : Nat) (lo hi mx : Option Value) (v : Value) (w : World) : Prop :=
  (lo = none ∧ hi = none ∧ mx = none ∧ v = .slice A len cap) ∨
  (∃ i l, lo = some (.int i l) ∧ hi = none ∧ mx = none ∧ v = .slice (cutA A l.toNat cap size) (len - l.toNat) (cap - l.toNat) ∧ (C.cut l len cap cap).holds w) ∨
  (∃ i h, lo = none ∧ hi = some (.int i h) ∧ mx = none ∧ v = .slice A h.toNat cap ∧ (C.cut 0 h cap cap).holds w) ∨
  (∃ i l j h, lo = some (.int i l) ∧ hi = some (.int j h) ∧ mx = none ∧ v = .slice (cutA A l.toNat cap size) (h.toNat - l.toNat) (cap - l.toNat) ∧ (C.cut l h cap cap).holds w) ∨
  (∃ i h j m, lo = none ∧ hi = some (.int i h) ∧ mx = some (.int j m) ∧ v = .slice A h.toNat m.toNat ∧ (C.cut 0 h m cap).holds w) ∨
  (∃ i l j h o m, lo = some (.int i l) ∧ hi = some (.int j h) ∧ mx = some (.int o m) ∧ v = .slice (cutA A l.toNat m.toNat size) (h.toNat - l.toNat) (m.toNat - l.toNat) ∧ (C.cut l h m cap).holds w)
theorem Cuts.slice {T : Tb} {t e len cap : Nat} {A : Option Addr} {lo hi mx : Option Value} {v : Value} (h1 : (T t).known = true) (h2 : (T t).td = .slice e) (h3 : (T e).known = true) (h : Cuts (T e).size A len cap lo hi mx v w) :
    ∃ c, sliceV T t (.slice A len cap) lo hi mx = some (v, c) ∧ c.holds w := by
  rcases h with ⟨rfl, rfl, rfl, rfl⟩ | ⟨i, l, rfl, rfl, rfl, rfl, hc⟩ | ⟨i, l, rfl, rfl, rfl, rfl, hc⟩ | ⟨i, l, j, h, rfl, rfl, rfl, rfl, hc⟩ | ⟨i, l, j, h, rfl, rfl, rfl, rfl, hc⟩ | ⟨i, l, j, h, o, m, rfl, rfl, rfl, rfl, hc⟩
  · exact ⟨.tt, by simp only [sliceV, h1, h2, h3] <;> rfl, trivial⟩
  all_goals exact ⟨_, by simp only [sliceV, h1, h2, h3] <;> rfl, hc⟩
theorem Cuts.arr {T : Tb} {t e n : Nat} {a : Addr} {lo hi mx : Option Value} {v : Value} (h1 : (T t).known = true) (h2 : (T t).td = .arr n e) (h3 : (T e).known = true) (h : Cuts (T e).size (some a) n n lo hi mx v w) :
    ∃ c, sliceV T t (.pointer (some a)) lo hi mx = some (v, c) ∧ c.holds w := by
  rcases h with ⟨rfl, rfl, rfl, rfl⟩ | ⟨i, l, rfl, rfl, rfl, rfl, hc⟩ | ⟨i, l, rfl, rfl, rfl, rfl, hc⟩ | ⟨i, l, j, h, rfl, rfl, rfl, rfl, hc⟩ | ⟨i, l, j, h, rfl, rfl, rfl, rfl, hc⟩ | ⟨i, l, j, h, o, m, rfl, rfl, rfl, rfl, hc⟩
  · exact ⟨.tt, by simp only [sliceV, h1, h2, h3] <;> rfl, trivial⟩
  all_goals exact ⟨_, by simp only [sliceV, h1, h2, h3] <;> rfl, hc⟩
/-- Bounds, told. -/
def RelO (rs : RS S) (ρ : Hd) (I : Nat → Prop) (w : World) : Option (AV S) → Option Value → Prop
  | none, v => v = none
  | some a, v => ∃ u, v = some u ∧ Rel rs ρ I w a u
theorem cutA_none {A : Option Addr} {l m size : Nat} (h : A = none) : cutA A l m size = none := by subst h; unfold cutA; split <;> rfl
theorem cutA_some {A : Option Addr} {l m size : Nat} (h : A ≠ none) : cutA A l m size ≠ none := by
  cases A
  · exact absurd rfl h
  · unfold cutA; split <;> simp
theorem nzOk.cut {z : Nz} {A : Option Addr} {l m size : Nat} (h : nzOk z A) : nzOk z (cutA A l m size) := by
  cases z
  · exact cutA_none h
  · exact cutA_some h
  · trivial
  · rename_i b
    cases A with
    | none => rw [cutA_none rfl]; exact h
    | some a =>
      have h1 : b = false := by cases h; rfl
      subst h1
      have h2 : cutA (some a) l m size ≠ none := cutA_some (by simp)
      show (cutA (some a) l m size).isNone = false
      cases e : cutA (some a) l m size with
      | none => exact absurd e h2
      | some _ => rfl
theorem cutA_inv {A : Option Addr} {l m size : Nat} (h : cutA A l m size = none) : A = none := by
  cases A with
  | none => rfl
  | some a => exact absurd h (cutA_some (by simp))
theorem cutRo_ok (ok : CxOK P cx rs) {c : TC} {xs : List (c.D S)} {z : Nz} {lo hi mx : Option (AV S)} {rd : List Nat} {k : AV S → List Nat → Option β} (h : cutRo c xs z lo hi mx rd k = some r) :
    ∃ a, k a rd = some r ∧ ∀ {ρ : Hd} {I : Nat → Prop} {w : World} {A : Option Addr} {cap : Nat} {lo' hi' mx' : Option Value}, (xs.length ≤ cap ∧ cap ≤ 9223372036854775807) → Elems (rpC rs c) I w A xs → nzO z A cap → RelO rs ρ I w lo lo' → RelO rs ρ I w hi hi' → RelO rs ρ I w mx mx' →
      ∃ v, Cuts (rpC rs c).n A xs.length cap lo' hi' mx' v w ∧ Rel rs ρ I w a v := by
  unfold cutRo at h
  split at h
  · refine ⟨_, h, fun hc e hz h1 h2 h3 => ?_⟩
    cases h1; cases h2; cases h3
    exact ⟨_, .inl ⟨rfl, rfl, rfl, rfl⟩, _, _, rfl, hc, e, hz⟩
  · obtain ⟨ys, h1, h2⟩ := bindS h
    refine ⟨_, h2, fun hc e hz h3 h4 h5 => ?_⟩
    cases h3; cases h5; obtain ⟨u, rfl, hu⟩ := h4; cases hu
    obtain ⟨q1, q2, q3, q4⟩ := slS0 hc e h1
    refine ⟨_, .inr (.inr (.inl ⟨_, _, rfl, rfl, rfl, rfl, Int.le_refl _, q1.1.1, by omega, Int.le_refl _⟩)), _, _, by rw [q4], q2, q3, hz⟩
  · obtain ⟨ys, h1, h2⟩ := bindS h
    refine ⟨_, h2, fun hc e hz h3 h4 h5 => ?_⟩
    cases h4; cases h5; obtain ⟨u, rfl, hu⟩ := h3; cases hu
    obtain ⟨A', c', q1, q2, q3, q4, q5, q6⟩ := slS rfl hc e h1
    refine ⟨_, .inr (.inl ⟨_, _, rfl, rfl, rfl, rfl, q1.1, q1.2.1, by omega, Int.le_refl _⟩), A', c', ?_, q2, q3, ⟨by rw [← q4]; exact hz.1.cut, fun hn => by have hA := hz.2 (cutA_inv (q4.trans hn)); omega⟩⟩
    rw [q4, q6, ← q5]; simp
  · obtain ⟨ys, h1, h2⟩ := bindS h
    refine ⟨_, h2, fun hc e hz h3 h4 h5 => ?_⟩
    cases h5; obtain ⟨u, rfl, hu⟩ := h3; cases hu; obtain ⟨u, rfl, hu⟩ := h4; cases hu
    obtain ⟨A', c', q1, q2, q3, q4, q5, q6⟩ := slS rfl hc e h1
    refine ⟨_, .inr (.inr (.inr (.inl ⟨_, _, _, _, rfl, rfl, rfl, rfl, q1.1, q1.2.1, by omega, Int.le_refl _⟩))), A', c', ?_, q2, q3, ⟨by rw [← q4]; exact hz.1.cut, fun hn => by have hA := hz.2 (cutA_inv (q4.trans hn)); omega⟩⟩
    rw [q4, q6, ← q5]
  · obtain ⟨hm, h⟩ := ite_none h
    obtain ⟨ys, h1, h2⟩ := bindS h
    refine ⟨_, h2, fun hc e hz h3 h4 h5 => ?_⟩
    cases h3; obtain ⟨u, rfl, hu⟩ := h4; cases hu; obtain ⟨u, rfl, hu⟩ := h5; cases hu
    obtain ⟨c', q1, q2, q3, q4, q5⟩ := slS0m hc e h1 hm
    refine ⟨_, .inr (.inr (.inr (.inr (.inl ⟨_, _, _, _, rfl, rfl, rfl, rfl, Int.le_refl _, q1.1, q1.2.1, q1.2.2⟩)))), _, _, by rw [q4, q5], q2, q3, ⟨hz.1, fun hn => by have hA := hz.2 hn; omega⟩⟩
  · obtain ⟨hm, h⟩ := ite_none h
    obtain ⟨ys, h1, h2⟩ := bindS h
    refine ⟨_, h2, fun hc e hz h3 h4 h5 => ?_⟩
    obtain ⟨u, rfl, hu⟩ := h3; cases hu; obtain ⟨u, rfl, hu⟩ := h4; cases hu; obtain ⟨u, rfl, hu⟩ := h5; cases hu
    obtain ⟨A', c', q1, q2, q3, q4, q5, q6⟩ := slSm rfl hc e h1 hm
    refine ⟨_, .inr (.inr (.inr (.inr (.inr ⟨_, _, _, _, _, _, rfl, rfl, rfl, rfl, q1.1, q1.2.1, q1.2.2.1, q1.2.2.2⟩)))), A', c', by rw [q4, q5, q6], q2, q3, ⟨by rw [← q4]; exact hz.1.cut, fun hn => by have hA := hz.2 (cutA_inv (q4.trans hn)); omega⟩⟩
  · cases h
theorem cutOwn_ok {id : Nat} {l0 h0 : Int} {v : AV S} {lo hi mx : Option (AV S)} {k : AV S → List Nat → Option β} (h : cutOwn id l0 h0 v lo hi mx k = some r) :
    ∃ a, k a [id] = some r ∧ ∀ {ρ : Hd} {I : Nat → Prop} {w : World} {v' : Value} {lo' hi' mx' : Option Value}, PartR ρ id l0 h0 v' → Rel rs ρ I w v v' → RelO rs ρ I w lo lo' → RelO rs ρ I w hi hi' → RelO rs ρ I w mx mx' →
      ∃ A len cap u, v' = .slice A len cap ∧ (∀ sz V, ρ id = some (V, sz) → Cuts sz A len cap lo' hi' mx' u w) ∧ Rel rs ρ I w a u := by
  have key : ∀ {ρ : Hd} {I : Nat → Prop} {w : World} {v' : Value} {l h : Int} (b1 b2 : Bool), PartR ρ id l0 h0 v' → 0 ≤ l ∧ l ≤ h ∧ h ≤ h0 - l0 → (b1 = false → l = 0) → (b2 = false → h = h0 - l0) →
      ∃ A len cap, v' = .slice A len cap ∧ ∃ u, u = Value.slice (if b1 then cutA A l.toNat cap (((ρ id).map (·.2)).getD 0) else A) ((if b2 then h.toNat else len) - l.toNat) (cap - l.toNat) ∧
        (0 ≤ l ∧ l ≤ (if b2 then h else (len : Int)) ∧ (if b2 then h else (len : Int)) ≤ (cap : Int)) ∧ Rel rs ρ I w (.part id (l0 + l) (l0 + h) : AV S) u := by
    intro ρ I w v' l h b1 b2 hp g e1 e2
    obtain ⟨A, n, c, sz, A', len, cap, rfl, h1, ⟨rfl, rfl, rfl, rfl, e5, e6⟩ | ⟨b, o, rfl, rfl, pt, hc, ho⟩⟩ := hp
    · have hl : l = 0 := by omega
      have hh : h = 0 := by omega
      subst hl; subst hh
      refine ⟨none, 0, 0, rfl, _, rfl, ?_, none, n, c, sz, none, 0, 0, ?_, h1, .inl ⟨rfl, rfl, rfl, rfl, by omega, by omega⟩⟩
      · cases b2 <;> simp
      · cases b1 <;> cases b2 <;> simp [cutA_none]
    · have hlen := pt.len; have hcap := pt.cap; have hlo := pt.lo
      obtain ⟨o', q1, q2, q3⟩ := partSm (b := b) (mx := (cap : Int)) pt ⟨g.1, g.2.1, g.2.2, by omega, Int.le_refl _⟩
      simp only [Int.toNat_natCast] at q1 q2
      refine ⟨_, len, cap, rfl, _, rfl, ?_, some ⟨b, 0, none⟩, n, c, sz, some ⟨b, o', none⟩, h.toNat - l.toNat, cap - l.toNat, ?_, h1, .inr ⟨b, o', rfl, rfl, q2, by omega, fun e0 => ?_⟩⟩
      · cases b2
        · have := e2 rfl
          simp; omega
        · simp; omega
      · have hA : (if b1 = true then cutA (some ⟨b, o, none⟩) l.toNat cap (((ρ id).map (·.2)).getD 0) else some ⟨b, o, none⟩) = some ⟨b, o', none⟩ := by
          rw [h1]
          cases b1
          · have := e1 rfl
            rw [q3 this]; simp
          · simpa using q1
        rw [hA]
        cases b2
        · have := e2 rfl
          have : len = h.toNat := by omega
          simp [this]
        · simp
      · rw [q3 (by omega)]; exact ho (by omega)
  unfold cutOwn at h
  split at h
  · refine ⟨_, h, fun hp hv h1 h2 h3 => ?_⟩
    cases h1; cases h2; cases h3
    obtain ⟨A, n, c, sz, A', m, d, rfl, _⟩ := hp
    exact ⟨_, _, _, _, rfl, fun _ _ _ => .inl ⟨rfl, rfl, rfl, rfl⟩, hv⟩
  · obtain ⟨g, h⟩ := ite_none h
    refine ⟨_, h, fun hp hv h1 h2 h3 => ?_⟩
    cases h1; cases h3; obtain ⟨u, rfl, hu⟩ := h2; cases hu
    obtain ⟨A2, len, cap, e, u, hu, hb, hr⟩ := key (I := _) (w := _) (l := 0) false true hp ⟨Int.le_refl _, g.1, g.2⟩ (fun _ => rfl) (fun h => by cases h)
    subst e
    simp only [if_true, Int.add_zero] at hu hb hr
    exact ⟨_, _, _, u, rfl, fun sz V _ => .inr (.inr (.inl ⟨_, _, rfl, rfl, rfl, by rw [hu]; simp, hb.1, hb.2.1, hb.2.2, Int.le_refl _⟩)), hr⟩
  · obtain ⟨g, h⟩ := ite_none h
    refine ⟨_, h, fun hp hv h1 h2 h3 => ?_⟩
    cases h2; cases h3; obtain ⟨u, rfl, hu⟩ := h1; cases hu
    obtain ⟨A2, len, cap, e, u, hu, hb, hr⟩ := key (I := _) (w := _) (h := h0 - l0) true false hp ⟨g.1, g.2, Int.le_refl _⟩ (fun h => by cases h) (fun _ => rfl)
    subst e
    rw [show l0 + (h0 - l0) = h0 by omega] at hr
    refine ⟨_, _, _, u, rfl, fun sz' V hV => .inr (.inl ⟨_, _, rfl, rfl, rfl, ?_, hb.1, hb.2.1, hb.2.2, Int.le_refl _⟩), hr⟩
    rw [hu, hV]; simp
  · obtain ⟨g, h⟩ := ite_none h
    refine ⟨_, h, fun hp hv h1 h2 h3 => ?_⟩
    cases h3; obtain ⟨u, rfl, hu⟩ := h1; cases hu; obtain ⟨u, rfl, hu⟩ := h2; cases hu
    obtain ⟨A2, len, cap, e, u, hu, hb, hr⟩ := key (I := _) (w := _) true true hp ⟨g.1, g.2.1, g.2.2⟩ (fun h => by cases h) (fun h => by cases h)
    subst e
    refine ⟨_, _, _, u, rfl, fun sz' V hV => .inr (.inr (.inr (.inl ⟨_, _, _, _, rfl, rfl, rfl, ?_, hb.1, hb.2.1, hb.2.2, Int.le_refl _⟩))), hr⟩
    rw [hu, hV]; simp
  · cases h
end
end Go.VX

/- VX, part g: all operations that leave the world alone. -/
namespace Go.VX
noncomputable section
open Go Go.SX Go.RowKit
set_option linter.unusedVariables false
variable {S : Nat → Type} {rs : RS S} {ρ ρ' : Hd} {I I' : Nat → Prop} {w w' w0 : World} {M : Nat → Prop} {F : List It} {m : Nat → Option (AI S)} {cx : Cx S} {P : Program} {β : Type} {r : β} {env : Env S} {its : Its S} {E : List Value}

theorem part_ro {id : Nat} {c : TC} {xs ys : List (c.D S)} {z : Nz} {lo hi : Int} {v : Value} (hx : Rel rs ρ I w (.part id lo hi : AV S) v) (h : RoR rs ρ I w id (.ro c xs z)) (g : cutI xs lo hi = some ys) : Rel rs ρ I w (.ro c ys .unk) v := by
  obtain ⟨A, n, cc, sz, A', m, d, rfl, h1, hor⟩ := hx
  obtain ⟨A2, cap, sz2, h2, h3, h4, h5, h6, h7⟩ := h
  rw [h1] at h2; cases h2
  rcases hor with ⟨rfl, rfl, rfl, rfl, rfl, rfl⟩ | ⟨b, o, rfl, rfl, pt, hc, _⟩
  · have : ys = [] := by
      obtain ⟨_, g2, _⟩ := cutS g
      rw [g2]; simp
    subst this
    exact ⟨none, 0, rfl, ⟨Nat.le_refl _, by omega⟩, Elems.nil, trivial, fun _ => rfl⟩
  · obtain ⟨e1, e2, e3⟩ := Elems.part h3 h5 h4 pt (by omega) g
    subst e1
    exact ⟨_, d, rfl, e2, e3, trivial, fun h => by cases h⟩
theorem own_ro {id : Nat} {c : TC} {xs : List (c.D S)} {z : Nz} {v : Value} (hx : Rel rs ρ I w (.own id : AV S) v) (h : RoR rs ρ I w id (.ro c xs z)) : Rel rs ρ I w (.ro c xs z) v := by
  obtain ⟨A, n, cc, sz, rfl, h1⟩ := hx
  obtain ⟨A2, cap, sz2, h2, h3, h4, h5, h6, h7⟩ := h
  rw [h1] at h2; cases h2
  exact ⟨_, _, rfl, h4, h5, h6, fun h => by rcases h7 with ⟨_, _, h8⟩ | ⟨b, h8, _⟩; exact h8; rw [h] at h8; cases h8⟩
theorem sliceA_ok (ok : CxOK P cx rs) {t : Nat} {x : AV S} {lo hi mx : Option (AV S)} {k : AV S → List Nat → Option β} (h : sliceA cx its t x lo hi mx k = some r) :
    ∃ a rd, k a rd = some r ∧ ∀ {ρ : Hd} {I : Nat → Prop} {w w0 : World} {M : Nat → Prop} {F : List It} {m : Nat → Option (AI S)} {x' : Value} {lo' hi' mx' : Option Value}, Rel rs ρ I w x x' → RelO rs ρ I w lo lo' → RelO rs ρ I w hi hi' → RelO rs ρ I w mx mx' → (∀ id ∈ rd, m id = lkI id its) → HR rs ρ I w w0 M F m →
      ∃ v c, sliceV cx.T t x' lo' hi' mx' = some (v, c) ∧ c.holds w ∧ Rel rs ρ I w a v := by
  unfold sliceA at h
  split at h
  · -- nil
    obtain ⟨h1, h⟩ := bif_none h
    obtain ⟨e, q1, q2, q3⟩ : ∃ e, (cx.T t).known = true ∧ (cx.T t).td = .slice e ∧ (cx.T e).known = true := by
      unfold slK at h1
      split at h1
      · exact ⟨_, by assumption, by assumption, h1⟩
      · cases h1
    split at h
    · refine ⟨_, _, h, fun hx h3 h4 h5 _ _ => ?_⟩
      cases hx; cases h3; cases h4; cases h5
      obtain ⟨c, q5, q6⟩ := Cuts.slice (T := cx.T) (w := _) q1 q2 q3 (.inl ⟨rfl, rfl, rfl, rfl⟩)
      exact ⟨_, c, q5, q6, rfl⟩
    · obtain ⟨h2, h⟩ := ite_none h
      subst h2
      refine ⟨_, _, h, fun hx h3 h4 h5 _ _ => ?_⟩
      cases hx; cases h3; cases h5; obtain ⟨u, rfl, hu⟩ := h4; cases hu
      obtain ⟨c, q5, q6⟩ := Cuts.slice (T := cx.T) (w := _) (A := none) (len := 0) (cap := 0) (v := .slice none 0 0) q1 q2 q3 (.inr (.inr (.inl ⟨_, 0, rfl, rfl, rfl, rfl, by decide, by decide, by decide, by decide⟩)))
      exact ⟨_, c, q5, q6, rfl⟩
    · obtain ⟨h2, h⟩ := ite_none h
      subst h2
      refine ⟨_, _, h, fun hx h3 h4 h5 _ _ => ?_⟩
      cases hx; cases h4; cases h5; obtain ⟨u, rfl, hu⟩ := h3; cases hu
      obtain ⟨c, q5, q6⟩ := Cuts.slice (T := cx.T) (w := _) (A := none) (len := 0) (cap := 0) (v := .slice none 0 0) q1 q2 q3 (.inr (.inl ⟨_, 0, rfl, rfl, rfl, by rw [cutA_none rfl]; rfl, by decide, by decide, by decide, by decide⟩))
      exact ⟨_, c, q5, q6, rfl⟩
    · cases h
  · obtain ⟨h1, h2⟩ := bif_none h
    obtain ⟨e, q1, q2, q3, q4⟩ := elOk_ok h1
    obtain ⟨a, h3, h4⟩ := cutRo_ok ok h2
    refine ⟨a, _, h3, fun hx h5 h6 h7 _ _ => ?_⟩
    obtain ⟨A, cap, rfl, h8, h9, h10⟩ := hx
    obtain ⟨v, h11, h12⟩ := h4 h8 h9 h10 h5 h6 h7
    rw [← szOf_rp ok, ← q4] at h11
    obtain ⟨c, q5, q6⟩ := Cuts.slice q1 q2 q3 h11
    exact ⟨v, c, q5, q6, h12⟩
  · rename_i id
    split at h
    · rename_i e3
      obtain ⟨h1, h2⟩ := bif_none h
      obtain ⟨e, q1, q2, q3, q4⟩ := elOk_ok h1
      obtain ⟨a, h3, h4⟩ := cutOwn_ok (rs := rs) h2
      refine ⟨a, _, h3, fun hx h5 h6 h7 hm hr => ?_⟩
      have hmi := (hm id (by simp)).trans e3
      obtain ⟨A, len, cap, u, rfl, h8, h9⟩ := h4 (PartR.own hx hr hmi) hx h5 h6 h7
      obtain ⟨A2, cap2, h10, _, _, h11, _⟩ := hr.sl hmi
      have h12 := h8 _ _ h10
      rw [h11, ← szOf_rp ok, ← q4] at h12
      obtain ⟨c, q5, q6⟩ := Cuts.slice q1 q2 q3 h12
      exact ⟨u, c, q5, q6, h9⟩
    · rename_i e3
      obtain ⟨h1, h2⟩ := bif_none h
      obtain ⟨e, q1, q2, q3, q4⟩ := elOk_ok h1
      obtain ⟨a, h3, h4⟩ := cutRo_ok ok h2
      refine ⟨a, _, h3, fun hx h5 h6 h7 hm hr => ?_⟩
      obtain ⟨A, cap, rfl, h8, h9, h10⟩ := own_ro hx (hr.ro ((hm id (by simp)).trans e3))
      obtain ⟨v, h11, h12⟩ := h4 h8 h9 h10 h5 h6 h7
      rw [← szOf_rp ok, ← q4] at h11
      obtain ⟨c, q5, q6⟩ := Cuts.slice q1 q2 q3 h11
      exact ⟨v, c, q5, q6, h12⟩
    · rename_i e3
      obtain ⟨h1, h2⟩ := bif_none h
      obtain ⟨e, q1, q2, q3, q4⟩ := elOk_ok h1
      obtain ⟨a, h3, h4⟩ := cutOwn_ok (rs := rs) h2
      refine ⟨a, _, h3, fun hx h5 h6 h7 hm hr => ?_⟩
      have hmi := (hm id (by simp)).trans e3
      obtain ⟨A, len, cap, u, rfl, h8, h9⟩ := h4 (PartR.arr hx hr hmi) hx h5 h6 h7
      obtain ⟨b, h10, _⟩ := hr.arr hmi
      have h12 := h8 _ _ h10
      rw [← q4] at h12
      obtain ⟨c, q5, q6⟩ := Cuts.slice q1 q2 q3 h12
      exact ⟨u, c, q5, q6, h9⟩
    · cases h
  · rename_i id l0 h0
    split at h
    · rename_i e3
      obtain ⟨h1, h2⟩ := bif_none h
      obtain ⟨e, q1, q2, q3, q4⟩ := elOk_ok h1
      obtain ⟨a, h3, h4⟩ := cutOwn_ok (rs := rs) h2
      refine ⟨a, _, h3, fun hx h5 h6 h7 hm hr => ?_⟩
      have hmi := (hm id (by simp)).trans e3
      obtain ⟨A, len, cap, u, rfl, h8, h9⟩ := h4 hx hx h5 h6 h7
      obtain ⟨A2, cap2, h10, _, _, h11, _⟩ := hr.sl hmi
      have h12 := h8 _ _ h10
      rw [h11, ← szOf_rp ok, ← q4] at h12
      obtain ⟨c, q5, q6⟩ := Cuts.slice q1 q2 q3 h12
      exact ⟨u, c, q5, q6, h9⟩
    · rename_i e3
      obtain ⟨h1, h2⟩ := bif_none h
      obtain ⟨e, q1, q2, q3, q4⟩ := elOk_ok h1
      obtain ⟨a, h3, h4⟩ := cutOwn_ok (rs := rs) h2
      refine ⟨a, _, h3, fun hx h5 h6 h7 hm hr => ?_⟩
      have hmi := (hm id (by simp)).trans e3
      obtain ⟨A, len, cap, u, rfl, h8, h9⟩ := h4 hx hx h5 h6 h7
      obtain ⟨b, h10, _⟩ := hr.arr hmi
      have h12 := h8 _ _ h10
      rw [← q4] at h12
      obtain ⟨c, q5, q6⟩ := Cuts.slice q1 q2 q3 h12
      exact ⟨u, c, q5, q6, h9⟩
    · rename_i e3
      obtain ⟨h1, h2⟩ := bif_none h
      obtain ⟨e, q1, q2, q3, q4⟩ := elOk_ok h1
      obtain ⟨ys, h2a, h2b⟩ := bindS h2
      obtain ⟨a, h3, h4⟩ := cutRo_ok ok h2b
      refine ⟨a, _, h3, fun hx h5 h6 h7 hm hr => ?_⟩
      obtain ⟨A, cap, rfl, h8, h9, h10⟩ := part_ro hx (hr.ro ((hm id (by simp)).trans e3)) h2a
      obtain ⟨v, h11, h12⟩ := h4 h8 h9 h10 h5 h6 h7
      rw [← szOf_rp ok, ← q4] at h11
      obtain ⟨c, q5, q6⟩ := Cuts.slice q1 q2 q3 h11
      exact ⟨v, c, q5, q6, h12⟩
    · cases h
  · rename_i id
    split at h
    · rename_i e3
      obtain ⟨h1, h2⟩ := bif_none h
      obtain ⟨e, q1, q2, q3, q4⟩ := arOk_ok h1
      obtain ⟨a, h3, h4⟩ := cutOwn_ok (rs := rs) h2
      refine ⟨a, _, h3, fun {ρ I w w0 M F m x' lo' hi' mx'} hx h5 h6 h7 hm hr => ?_⟩
      have hmi := (hm id (by simp)).trans e3
      obtain ⟨b', n, c', sz, rfl, h1⟩ := hx
      obtain ⟨b, h10, _⟩ := hr.arr hmi
      rw [h1] at h10; cases h10
      have hx' : Rel rs ρ I w (AV.own id : AV S) (Value.slice (some ⟨b', 0, none⟩) _ _) := ⟨_, _, _, _, rfl, h1⟩
      obtain ⟨A, len, cap, u, he, h8, h9⟩ := h4 (PartR.arr hx' hr hmi) hx' h5 h6 h7
      cases he
      have h12 := h8 _ _ h1
      rw [← q4] at h12
      obtain ⟨c, q5, q6⟩ := Cuts.arr q1 q2 q3 h12
      exact ⟨u, c, q5, q6, h9⟩
    · cases h
  · cases h
theorem idx_ok {T : Tb} {t e len cap : Nat} {a : Addr} {i j : Operand} {k : IntKind} {n : Int} (h1 : (T t).known = true) (h2 : (T t).td = .slice e) (h3 : (T e).known = true) (hx : ev E i = .slice (some a) len cap) (hi : ev E j = .int k n) (hb : 0 ≤ n ∧ n < (len : Int)) :
    ∃ c, stepOp T E (.indexAddr t i j) undef = some (.pointer (some (plus a (n.toNat * (T e).size))), c) ∧ c.holds w := ⟨.idx n len, by simp only [stepOp, h1, h2, hx, hi, h3] <;> rfl, hb⟩
theorem idxA_ok {T : Tb} {t e N : Nat} {a : Addr} {i j : Operand} {k : IntKind} {n : Int} (h1 : (T t).known = true) (h2 : (T t).td = .arr N e) (h3 : (T e).known = true) (hx : ev E i = .pointer (some a)) (hi : ev E j = .int k n) (hb : 0 ≤ n ∧ n < (N : Int)) :
    ∃ c, stepOp T E (.indexAddr t i j) undef = some (.pointer (some (plus a (n.toNat * (T e).size))), c) ∧ c.holds w := ⟨.idx n N, by simp only [stepOp, h1, h2, hx, hi, h3] <;> rfl, hb⟩
theorem ro_idx (ok : CxOK P cx rs) {c : TC} {xs : List (c.D S)} {z : Nz} {y : c.D S} {n : Int} {v : Value} (hx : Rel rs ρ I w (.ro c xs z) v) (hy : xs[n.toNat]? = some y) (hn : 0 ≤ n ∧ n < (xs.length : Int)) :
    ∃ b o cap, v = .slice (some ⟨b, o, none⟩) xs.length cap ∧ Rel rs ρ I w (.ero c y 0) (.pointer (some (plus ⟨b, o, none⟩ (n.toNat * (rpC rs c).n)))) := by
  obtain ⟨A, cap, rfl, h1, h2, h3⟩ := hx
  obtain ⟨b, o, rfl⟩ := Elems.opn h2 hy
  obtain ⟨cs, h4, h5, h6⟩ := Elems.getI h2 hy
  exact ⟨b, o, cap, rfl, b, _, cs, rfl, h4, h5, h6⟩
theorem own_idx {id : Nat} {lo hi n : Int} {v : Value} {V : Value} {sz : Nat} (hp : PartR ρ id lo hi v) (hV : ρ id = some (V, sz)) (hn : 0 ≤ n ∧ n < hi - lo) :
    ∃ a len cap, v = .slice (some a) len cap ∧ (0 ≤ n ∧ n < (len : Int)) ∧ Rel rs ρ I w (.eown id (lo + n) 0 : AV S) (.pointer (some (plus a (n.toNat * sz)))) := by
  obtain ⟨A, N, c, sz', A', m, d, rfl, h1, ⟨_, _, _, _, rfl, rfl⟩ | ⟨b, o, rfl, rfl, pt, hc, _⟩⟩ := hp
  · omega
  · rw [h1] at hV; cases hV
    obtain ⟨g1, g2⟩ := Pt.idx (b := b) pt hn
    exact ⟨_, _, _, rfl, g1, b, N, c, sz, g2, h1⟩
theorem indexAddrA_ok (ok : CxOK P cx rs) {t : Nat} {x i : AV S} {k : AV S → List Nat → Option β} (h : indexAddrA cx its t x i k = some r) :
    ∃ a rd, k a rd = some r ∧ ∀ {ρ : Hd} {I : Nat → Prop} {w w0 : World} {M : Nat → Prop} {F : List It} {m : Nat → Option (AI S)} {E : List Value} {X J : Operand}, Rel rs ρ I w x (ev E X) → Rel rs ρ I w i (ev E J) → (∀ id ∈ rd, m id = lkI id its) → HR rs ρ I w w0 M F m →
      ∃ v c, stepOp cx.T E (.indexAddr t X J) undef = some (v, c) ∧ c.holds w ∧ Rel rs ρ I w a v := by
  unfold indexAddrA at h
  split at h
  · rename_i j n
    split at h
    · obtain ⟨h1, h2⟩ := bif_none h
      obtain ⟨e, q1, q2, q3, q4⟩ := elOk_ok h1
      obtain ⟨y, h3, h4, h5⟩ := getI_some h2
      refine ⟨_, _, h3, fun hx hi _ _ => ?_⟩
      obtain ⟨b, o, cap, h6, h7⟩ := ro_idx ok hx h4 h5
      rw [← szOf_rp ok, ← q4] at h7
      obtain ⟨c, q5, q6⟩ := idx_ok q1 q2 q3 h6 hi h5
      exact ⟨_, c, q5, q6, h7⟩
    · rename_i id
      split at h
      · rename_i e3
        obtain ⟨h1, h2⟩ := bif_none h
        obtain ⟨e, q1, q2, q3, q4⟩ := elOk_ok h1
        obtain ⟨h3, h4⟩ := ite_none h2
        refine ⟨_, _, h4, fun hx hi hm hr => ?_⟩
        have hmi := (hm id (by simp)).trans e3
        obtain ⟨A2, cap2, h10, _, _, h11, _⟩ := hr.sl hmi
        obtain ⟨a, len, cap, h5, h6, h7⟩ := own_idx (rs := rs) (S := S) (I := _) (w := _) (PartR.own hx hr hmi) h10 (n := n) ⟨h3.1, by omega⟩
        rw [h11, ← szOf_rp ok, ← q4, Int.zero_add] at h7
        obtain ⟨c, q5, q6⟩ := idx_ok q1 q2 q3 h5 hi h6
        exact ⟨_, c, q5, q6, h7⟩
      · rename_i e3
        obtain ⟨h1, h2⟩ := bif_none h
        obtain ⟨e, q1, q2, q3, q4⟩ := elOk_ok h1
        obtain ⟨y, h3, h4, h5⟩ := getI_some h2
        refine ⟨_, _, h3, fun hx hi hm hr => ?_⟩
        obtain ⟨b, o, cap, h6, h7⟩ := ro_idx ok (own_ro hx (hr.ro ((hm id (by simp)).trans e3))) h4 h5
        rw [← szOf_rp ok, ← q4] at h7
        obtain ⟨c, q5, q6⟩ := idx_ok q1 q2 q3 h6 hi h5
        exact ⟨_, c, q5, q6, h7⟩
      · rename_i e3
        obtain ⟨h1, h2⟩ := bif_none h
        obtain ⟨e, q1, q2, q3, q4⟩ := elOk_ok h1
        obtain ⟨h3, h4⟩ := ite_none h2
        refine ⟨_, _, h4, fun hx hi hm hr => ?_⟩
        have hmi := (hm id (by simp)).trans e3
        obtain ⟨b, h10, _⟩ := hr.arr hmi
        obtain ⟨a, len, cap, h5, h6, h7⟩ := own_idx (rs := rs) (S := S) (I := _) (w := _) (PartR.arr hx hr hmi) h10 (n := n) ⟨h3.1, by omega⟩
        rw [← q4, Int.zero_add] at h7
        obtain ⟨c, q5, q6⟩ := idx_ok q1 q2 q3 h5 hi h6
        exact ⟨_, c, q5, q6, h7⟩
      · cases h
    · rename_i id lo hi
      split at h
      · rename_i e3
        obtain ⟨h1, h2⟩ := bif_none h
        obtain ⟨e, q1, q2, q3, q4⟩ := elOk_ok h1
        obtain ⟨h3, h4⟩ := ite_none h2
        refine ⟨_, _, h4, fun hx hi hm hr => ?_⟩
        have hmi := (hm id (by simp)).trans e3
        obtain ⟨A2, cap2, h10, _, _, h11, _⟩ := hr.sl hmi
        obtain ⟨a, len, cap, h5, h6, h7⟩ := own_idx (rs := rs) (S := S) (I := _) (w := _) hx h10 (n := n) h3
        rw [h11, ← szOf_rp ok, ← q4] at h7
        obtain ⟨c, q5, q6⟩ := idx_ok q1 q2 q3 h5 hi h6
        exact ⟨_, c, q5, q6, h7⟩
      · rename_i e3
        obtain ⟨h1, h2⟩ := bif_none h
        obtain ⟨e, q1, q2, q3, q4⟩ := elOk_ok h1
        obtain ⟨h3, h4⟩ := ite_none h2
        refine ⟨_, _, h4, fun hx hi hm hr => ?_⟩
        have hmi := (hm id (by simp)).trans e3
        obtain ⟨b, h10, _⟩ := hr.arr hmi
        obtain ⟨a, len, cap, h5, h6, h7⟩ := own_idx (rs := rs) (S := S) (I := _) (w := _) hx h10 (n := n) h3
        rw [← q4] at h7
        obtain ⟨c, q5, q6⟩ := idx_ok q1 q2 q3 h5 hi h6
        exact ⟨_, c, q5, q6, h7⟩
      · cases h
    · rename_i id
      split at h
      · rename_i e3
        obtain ⟨h1, h2⟩ := bif_none h
        obtain ⟨e, q1, q2, q3, q4⟩ := arOk_ok h1
        obtain ⟨h3, h4⟩ := ite_none h2
        refine ⟨_, _, h4, fun hx hi hm hr => ?_⟩
        have hmi := (hm id (by simp)).trans e3
        obtain ⟨b', n', c', sz, he, h1⟩ := hx
        obtain ⟨b, h10, _⟩ := hr.arr hmi
        rw [h1] at h10; cases h10
        obtain ⟨c, q5, q6⟩ := idxA_ok q1 q2 q3 he hi h3
        refine ⟨_, c, q5, q6, b', _, _, _, ?_, h1⟩
        rw [q4]; simp [plus]
      · cases h
    · rename_i g
      split at h
      · rename_i jk xs e3
        obtain ⟨h1, h2⟩ := bif_none h
        obtain ⟨e, q1, q2, q3, q4⟩ := arOk_ok h1
        obtain ⟨y, h3, h4, h5⟩ := getI_some h2
        refine ⟨_, _, h3, fun hx hi hm hr => ?_⟩
        obtain ⟨he, hgl⟩ := hx
        have hel := hgl jk xs (by rw [← ok.gl]; exact e3)
        obtain ⟨cs, h6, h7, h8⟩ := Elems.getI hel h4
        obtain ⟨c, q5, q6⟩ := idxA_ok q1 q2 q3 he hi h5
        refine ⟨_, c, q5, q6, g, _, cs, ?_, h6, h7, h8⟩
        rw [q4]; simp [plus, Rp.int]
      · cases h
    · rename_i id N
      split at h
      · rename_i bt cs e3
        obtain ⟨h1, h2⟩ := bif_none h
        obtain ⟨e, q1, q2, q3, q4⟩ := elOk_ok h1
        obtain ⟨h3, h4⟩ := ite_none h2
        refine ⟨_, _, h4, fun hx hi hm hr => ?_⟩
        obtain ⟨b, sz, he, hb⟩ := hx
        obtain ⟨c, q5, q6⟩ := idx_ok q1 q2 q3 he hi h3
        refine ⟨_, c, q5, q6, b, sz, ?_, hb⟩
        rw [q4]; simp [plus]
      · cases h
    · cases h
  · cases h
theorem addOff_ok {off : Nat} {a : AV S} {k : AV S → Option β} (h : addOff off a k = some r) :
    ∃ v, k v = some r ∧ ∀ {ρ : Hd} {I : Nat → Prop} {w : World} {a' : Value}, Rel rs ρ I w a a' → ∃ ad, a' = .pointer (some ad) ∧ Rel rs ρ I w v (.pointer (some (plus ad off))) := by
  unfold addOff at h
  split at h
  · refine ⟨_, h, fun hx => ?_⟩
    obtain ⟨b, sz, rfl, h1⟩ := hx
    exact ⟨_, rfl, b, sz, rfl, h1⟩
  · refine ⟨_, h, fun hx => ?_⟩
    obtain ⟨b, n, c, sz, rfl, h1⟩ := hx
    exact ⟨_, rfl, b, n, c, sz, by simp [plus, Nat.add_assoc], h1⟩
  · refine ⟨_, h, fun hx => ?_⟩
    obtain ⟨b, o, cs, rfl, h1⟩ := hx
    exact ⟨_, rfl, b, o, cs, by simp [plus, Nat.add_assoc], h1⟩
  · cases h
theorem setA_ok {cs : List (AV S)} : ∀ {vs : List (AV S)} {off : Nat} {k : List (AV S) → Option β}, setA cs off vs k = some r →
    ∃ cs', k cs' = some r ∧ off + vs.length ≤ cs.length + (if vs = [] then off else 0) ∧ cs'.length = cs.length ∧ ∀ {ρ : Hd} {I : Nat → Prop} {w : World} {us ds : List Value}, RelL rs ρ I w vs us → RelL rs ρ I w cs ds → RelL rs ρ I w cs' (setL ds off us) := by
  induction cs with
  | nil =>
    intro vs off k h
    cases vs with
    | nil => exact ⟨[], by simpa [setA] using h, by simp, rfl, fun h1 h2 => by cases h1; exact h2⟩
    | cons v vs => simp [setA] at h
  | cons c cs ih =>
    intro vs off k h
    cases vs with
    | nil => exact ⟨c :: cs, by simpa [setA] using h, by simp, rfl, fun h1 h2 => by cases h1; exact h2⟩
    | cons v vs =>
      cases off with
      | zero =>
        simp only [setA] at h
        obtain ⟨cs', h1, h2, h3, h4⟩ := ih h
        refine ⟨v :: cs', h1, ?_, by simp [h3], fun h5 h6 => ?_⟩
        · simp only [List.length_cons, reduceCtorEq, if_false]
          split at h2 <;> omega
        · obtain ⟨u, us, rfl, h7, h8⟩ := h5
          obtain ⟨d, ds, rfl, h9, h10⟩ := h6
          have := h4 h8 h10
          refine ⟨u, _, ?_, h7, this⟩
          simp only [setL, List.set_cons_zero]
          exact setL_append [u] us ds 0
      | succ off =>
        simp only [setA] at h
        obtain ⟨cs', h1, h2, h3, h4⟩ := ih h
        refine ⟨c :: cs', h1, ?_, by simp [h3], fun {ρ I w us ds'} h5 h6 => ?_⟩
        · simp only [List.length_cons, reduceCtorEq, if_false] at h2 ⊢
          omega
        · obtain ⟨d, ds, rfl, h9, h10⟩ := h6
          refine ⟨d, _, ?_, h9, h4 h5 h10⟩
          have := setL_append [d] us ds off
          simpa [Nat.add_comm] using this

theorem zeroA_ok {t : Nat} {cs : List (AV S)} (h : zeroA cx t = some cs) : (cx.T t).known = true ∧ RelL rs ρ I w cs (cx.T t).zero.cells.toList := by
  unfold zeroA at h
  split at h
  · rename_i hk
    refine ⟨hk, ?_⟩
    revert h
    generalize (cx.T t).zero = z
    intro h
    cases z
    case agg vs =>
      cases h
      have := RelL.map (rs := rs) (ρ := ρ) (I := I) (w := w) (f := ofVal (S := S)) (g := fun v => v) (l := vs.toList) fun v _ => ofVal_ok v
      simpa [Value.cells] using this
    all_goals
      cases h
      exact ⟨_, [], rfl, ofVal_ok _, rfl⟩
  · cases h
theorem cellsA_rel {a : AV S} {v : Value} (hn : ∀ i N xs, a ≠ .arr i N xs) (h : Rel rs ρ I w a v) (hf : flatL (cellsA a) = true) : RelL rs ρ I w (cellsA a) v.cells.toList := by
  cases a
  case agg cs =>
    obtain ⟨vs, rfl, h1⟩ := h
    simpa [cellsA, Value.cells] using h1
  case arr i N xs => exact absurd rfl (hn _ _ _)
  all_goals
    simp only [cellsA] at hf ⊢
    have h1 := flatL_rel hf (show RelL rs ρ I w [_] [v] from ⟨v, [], rfl, h, rfl⟩) v (List.mem_cons_self ..)
    have hc : v.cells.toList = [v] := by
      cases v <;> first | rfl | simp [Value.oneCell'] at h1
    rw [hc]
    exact ⟨v, [], rfl, h, rfl⟩
theorem fillA_ok {T : Tb} {fs : List (Nat × Nat)} : ∀ {ps : List (Nat × AV S)} {cs : List (AV S)} {k : List (AV S) → Option β}, fillA T fs ps cs k = some r →
    ∃ cs', k cs' = some r ∧ ∀ {ρ : Hd} {I : Nat → Prop} {w : World} {qs : List (Nat × Value)} {ds : List Value}, qs.length = ps.length → (∀ (i : Nat) (a : Nat × AV S) (q : Nat × Value), ps[i]? = some a → qs[i]? = some q → a.1 = q.1 ∧ Rel rs ρ I w a.2 q.2) → RelL rs ρ I w cs ds →
      ∃ ds', fillL (fun i => (fs[i]?).map fun f => (f.1, (T f.2).size)) ds qs = some ds' ∧ RelL rs ρ I w cs' ds' := by
  intro ps
  induction ps with
  | nil =>
    intro cs k h
    refine ⟨cs, h, fun hl _ hc => ?_⟩
    have : _ = [] := List.eq_nil_of_length_eq_zero hl
    subst this
    exact ⟨_, rfl, hc⟩
  | cons p ps ih =>
    intro cs k h
    simp only [fillA] at h
    split at h
    · rename_i off ft e
      split at h
      · obtain ⟨h1, h2⟩ := bif_none h
        simp only [Bool.and_eq_true] at h1
        obtain ⟨cs1, h3, h4, h5, h6⟩ := setA_ok (rs := rs) h2
        obtain ⟨cs2, h7, h8⟩ := ih h3
        refine ⟨cs2, h7, fun {ρ I w qs ds} hl hq hc => ?_⟩
        cases qs with
        | nil => simp at hl
        | cons q qs =>
          obtain ⟨h9, h10⟩ := hq 0 p q rfl rfl
          have hfl := h1.2
          have hn : ∀ i N xs, p.2 ≠ .arr i N xs := by
            intro i N xs he
            rw [he] at hfl; simp [cellsA, flatL, flatA] at hfl
          have h11 := cellsA_rel hn h10 hfl
          obtain ⟨ds', h12, h13⟩ := h8 (by simpa using hl) (fun i a q h1 h2 => hq (i + 1) a q (by simpa using h1) (by simpa using h2)) (h6 h11 hc)
          refine ⟨ds', ?_, h13⟩
          have hlen := h11.length
          have hcl := hc.length
          simp only [fillL, ← h9, e, Option.map_some]
          rw [if_pos]
          · exact h12
          · refine ⟨by rw [hlen]; exact Nat.eq_of_beq_eq_true h1.1.1, ?_⟩
            have := Nat.eq_of_beq_eq_true h1.1.1
            rw [hlen, hcl, this]
            exact Nat.le_of_ble_eq_true h1.1.2
      · cases h
    · cases h
/-- An operation that leaves the world alone yields this. -/
def GoodP (cx : Cx S) (rs : RS S) (o : Op) (env : Env S) (m : Nat → Option (AI S)) (rd : List Nat) (v : AV S) : Prop :=
  ∀ {ρ : Hd} {I : Nat → Prop} {w w0 : World} {M : Nat → Prop} {F : List It} {m' : Nat → Option (AI S)} {E : List Value}, (∀ x ∈ o.operands.toList, Rel rs ρ I w (evA env x) (ev E x)) → (∀ id ∈ rd, m' id = m id) → HR rs ρ I w w0 M F m' →
    ∃ ld v' c, stepOp cx.T E o ld = some (v', c) ∧ c.holds w ∧ Rel rs ρ I w v v'
end
end Go.VX

/- VX, part h: what is told of an operation that leaves the world alone is so. -/
namespace Go.VX
noncomputable section
open Go Go.SX Go.RowKit
set_option linter.unusedVariables false
variable {S : Nat → Type} {rs : RS S} {ρ ρ' : Hd} {I I' : Nat → Prop} {w w' w0 : World} {M : Nat → Prop} {F : List It} {m : Nat → Option (AI S)} {cx : Cx S} {P : Program} {β : Type} {r : β} {env : Env S} {its : Its S} {E : List Value}

theorem boolA_ok {v : AV S} {a b : Option β} (h : boolA v a b = some r) : (∃ x : Bool, (x = true → a = some r) ∧ (x = false → b = some r) ∧ ∀ ρ I w v', Rel rs ρ I w v v' → v' = .bool x) := by
  unfold boolA at h
  split at h
  · rename_i x
    refine ⟨x, ?_, ?_, fun _ _ _ _ h => h⟩
    · rintro rfl; simpa using h
    · rintro rfl; simpa using h
  · rename_i p i
    refine ⟨@decide p i, fun e => ?_, fun e => ?_, fun _ _ _ _ h => h⟩
    · rw [if_pos (of_decide_eq_true e)] at h; exact h
    · rw [if_neg (of_decide_eq_false e)] at h; exact h
  · cases h
theorem isSl_ok {T : Tb} {t : Nat} (h : isSl T t = true) : ∃ e, (T t).known = true ∧ (T t).td = .slice e := by
  unfold isSl at h
  split at h
  · exact ⟨_, by assumption, by assumption⟩
  · cases h
theorem isStr_ok {T : Tb} {t : Nat} (h : isStr T t = true) : (T t).known = true ∧ (T t).td = .str := by
  unfold isStr at h
  split at h
  · exact ⟨by assumption, by assumption⟩
  · cases h
theorem lenOf_ok {t : Nat} {x : AV S} {k : Int → List Nat → Option β} (h : lenOf cx its t x k = some r) :
    ∃ n rd, k n rd = some r ∧ ∀ {ρ : Hd} {I : Nat → Prop} {w w0 : World} {M : Nat → Prop} {F : List It} {m : Nat → Option (AI S)} {E : List Value} {X : Operand}, Rel rs ρ I w x (ev E X) → (∀ id ∈ rd, m id = lkI id its) → HR rs ρ I w w0 M F m →
      stepOp cx.T E (.call ⟨.builtin .len, ⟨[X]⟩, ⟨[t]⟩⟩) undef = some (.int .i64 n, .tt) := by
  have sl : ∀ {e : Nat} {E : List Value} {X : Operand} {A : Option Addr} {n c : Nat}, (cx.T t).known = true → (cx.T t).td = .slice e → ev E X = .slice A n c → stepOp cx.T E (.call ⟨.builtin .len, ⟨[X]⟩, ⟨[t]⟩⟩) undef = some (.int .i64 n, .tt) := by
    intro e E X A n c h1 h2 h3
    simp only [stepOp, h1, h2, h3]
  unfold lenOf at h
  split at h
  · obtain ⟨h1, h2⟩ := bif_none h
    obtain ⟨q1, q2⟩ := isStr_ok h1
    refine ⟨_, _, h2, fun hx _ _ => ?_⟩
    simp only [stepOp, q1, q2, show ev _ _ = _ from hx]
  · obtain ⟨h1, h2⟩ := bif_none h
    obtain ⟨e, q1, q2⟩ := isSl_ok h1
    split at h2
    · exact ⟨_, _, h2, fun hx _ _ => sl q1 q2 hx⟩
    · refine ⟨_, _, h2, fun hx _ _ => ?_⟩
      obtain ⟨A, cap, h3, _⟩ := hx
      exact sl q1 q2 h3
    · rename_i id hns
      split at h2
      · rename_i e3
        refine ⟨_, _, h2, fun hx hm hr => ?_⟩
        obtain ⟨A, n, c, sz, h3, h4⟩ := hx
        obtain ⟨A', cap, h5, _⟩ := hr.sl ((hm id (by simp)).trans e3)
        rw [h4, h3] at h5; cases h5
        exact sl q1 q2 h3
      · rename_i e3
        refine ⟨_, _, h2, fun hx hm hr => ?_⟩
        obtain ⟨A, cap, h3, _⟩ := own_ro hx (hr.ro ((hm id (by simp)).trans e3))
        exact sl q1 q2 h3
      · rename_i e3
        refine ⟨_, _, h2, fun hx hm hr => ?_⟩
        obtain ⟨A, n, c, sz, h3, h4⟩ := hx
        obtain ⟨b, h5, _⟩ := hr.arr ((hm id (by simp)).trans e3)
        rw [h4, h3] at h5; cases h5
        exact sl q1 q2 h3
      · cases h2
    · refine ⟨_, _, h2, fun hx _ _ => ?_⟩
      obtain ⟨A, n, c, sz, A', m, d, h3, h4, ⟨_, _, rfl, _, rfl, rfl⟩ | ⟨b, o, _, _, pt, _, _⟩⟩ := hx
      · exact sl q1 q2 h3
      · rw [← pt.len]; exact sl q1 q2 h3
    · refine ⟨_, _, h2, fun hx _ _ => ?_⟩
      obtain ⟨b, sz, h3, _⟩ := hx
      exact sl q1 q2 h3
    · cases h2
theorem fieldAddr_step {T : Tb} {t f off ft : Nat} {x : Operand} {fs : List (Nat × Nat)} {ad : Addr} (h1 : (T t).known = true) (h2 : (T t).td = .strct fs) (h3 : fs[f]? = some (off, ft)) (h4 : ((T ft).known && (T ft).size != 0) = true) (hx : ev E x = .pointer (some ad)) :
    stepOp T E (.fieldAddr t x f) undef = some (.pointer (some (plus ad off)), .tt) := by
  simp only [stepOp, h1, h2, hx, h3, h4, if_true]
theorem field_step {T : Tb} {t f off ft : Nat} {x : Operand} {fs : List (Nat × Nat)} {cs : Array Value} {v : Value} (h1 : (T t).known = true) (h2 : (T t).td = .strct fs) (h3 : fs[f]? = some (off, ft)) (hx : ev E x = .agg cs) (h4 : partV T ft cs.toList off = some v) :
    stepOp T E (.field t x f) undef = some (v, .tt) := by
  simp only [stepOp, h1, h2, hx, h3, h4, Option.map_some]
theorem partA_partV {t off : Nat} {cs : List (AV S)} {vs : List Value} {k : AV S → Option β} (h : partA cx t cs off k = some r) :
    ∃ a, k a = some r ∧ ∀ {ρ : Hd} {I : Nat → Prop} {w : World} {vs : List Value}, RelL rs ρ I w cs vs → ∃ v, partV cx.T t vs off = some v ∧ Rel rs ρ I w a v := by
  obtain ⟨a, h1, h2, ⟨h3, h4, rfl⟩ | ⟨h3, h4⟩⟩ := partA_ok h
  · exact ⟨_, h1, fun hr => ⟨_, by simp only [partV, h2, h3] <;> rfl, _, rfl, (hr.drop off).take _⟩⟩
  · refine ⟨_, h1, fun hr => ?_⟩
    obtain ⟨v, h5, h6⟩ := hr.get h4
    exact ⟨v, by simp only [partV, h2, h3, h5], h6⟩
theorem relL_fn {l : List Operand} (h : ∀ x ∈ l, Rel rs ρ I w (evA env x) (ev E x)) : RelL rs ρ I w (l.map (evA env)) (l.map (ev E)) := RelL.map h
theorem relO_opt {o : Option Operand} (h : ∀ x, o = some x → Rel rs ρ I w (evA env x) (ev E x)) : RelO rs ρ I w (optA env o) (o.map (ev E)) := by
  cases o with
  | none => rfl
  | some x => exact ⟨_, rfl, h x rfl⟩
theorem bytesA_ok {v : AV S} {k : List Int → List Nat → Option β} (h : bytesA its v k = some r) :
    ∃ xs rd, k xs rd = some r ∧ ∀ {ρ : Hd} {I : Nat → Prop} {w w0 : World} {M : Nat → Prop} {F : List It} {m : Nat → Option (AI S)} {v' : Value}, Rel rs ρ I w v v' → (∀ id ∈ rd, m id = lkI id its) → HR rs ρ I w w0 M F m →
      ∃ A c, v' = .slice A xs.length c ∧ (C.bytes A xs.length (strOfNums xs)).holds w := by
  unfold bytesA at h
  split at h
  · exact ⟨_, _, h, fun hx _ _ => by cases hx; exact ⟨_, _, rfl, Elems.bytes (I := fun _ => True) (xs := []) Elems.nil⟩⟩
  · refine ⟨_, _, h, fun hx _ _ => ?_⟩
    obtain ⟨A, cap, rfl, _, h3, _⟩ := hx
    exact ⟨A, cap, rfl, Elems.bytes h3⟩
  · rename_i id
    split at h
    · rename_i e3
      refine ⟨_, _, h, fun hx hm hr => ?_⟩
      obtain ⟨A, n, c, sz, rfl, h4⟩ := hx
      rcases hr.focus ((hm id (by simp)).trans e3) with ⟨_, L, p, _, _, _, _, ⟨A, cap', cl, h6, rfl, h7, h8, _⟩, s⟩ | ⟨_, _, _, _, _, _, hf, _⟩
      · rw [h4] at h6; cases h6
        exact ⟨_, _, rfl, St.bytes s (i := 0) rfl rfl h8⟩
      · exact hf.elim
    · rename_i e3
      refine ⟨_, _, h, fun hx hm hr => ?_⟩
      obtain ⟨A, cap, rfl, _, h3, _⟩ := own_ro hx (hr.ro ((hm id (by simp)).trans e3))
      exact ⟨A, cap, rfl, Elems.bytes h3⟩
    · cases h
  · cases h
theorem stepP_ok (ok : CxOK P cx rs) {o : Op} {k : AV S → List Nat → Option β} (h : stepP cx env its o k = some r) : ∃ v rd, k v rd = some r ∧ GoodP cx rs o env (fun id => lkI id its) rd v := by
  unfold stepP at h
  split at h
  · exact ⟨_, _, h, fun hop _ _ => ⟨undef, _, .tt, rfl, trivial, hop _ (by simp [Op.operands])⟩⟩
  · exact ⟨_, _, h, fun hop _ _ => ⟨undef, _, .tt, rfl, trivial, hop _ (by simp [Op.operands])⟩⟩
  · -- pick
    rename_i c a b
    obtain ⟨x, h1, h2, h3⟩ := boolA_ok (rs := rs) h
    cases x
    · exact ⟨_, _, h2 rfl, fun hop _ _ => ⟨undef, _, .tt, by simp only [stepOp, h3 _ _ _ _ (hop c (by simp [Op.operands]))], trivial, hop _ (by simp [Op.operands])⟩⟩
    · exact ⟨_, _, h1 rfl, fun hop _ _ => ⟨undef, _, .tt, by simp only [stepOp, h3 _ _ _ _ (hop c (by simp [Op.operands]))], trivial, hop _ (by simp [Op.operands])⟩⟩
  · -- binOp
    rename_i op t x y _
    obtain ⟨a, h1, h2⟩ := binA_ok (rs := rs) h
    refine ⟨a, _, h1, fun hop hm hr => ?_⟩
    obtain ⟨v, c, h3, h4, h5⟩ := h2 (hop x (by simp [Op.operands])) (hop y (by simp [Op.operands])) (fun id e => hm id (by rw [e]; simp)) hr
    exact ⟨undef, v, c, h3, h4, h5⟩
  · rename_i op _ x
    obtain ⟨a, h1, h2⟩ := unA_ok (rs := rs) h
    refine ⟨a, _, h1, fun hop hm hr => ?_⟩
    obtain ⟨v, h3, h4⟩ := h2 (hop x (by simp [Op.operands]))
    exact ⟨undef, v, .tt, by simp only [stepOp, h3, Option.map_some], trivial, h4⟩
  · -- convert
    rename_i s d x
    split at h
    · rename_i e1 e2 e3 e4
      split at h
      · rename_i e0
        refine ⟨_, _, h, fun hop hm hr => ?_⟩
        have hx := hop x (by simp [Op.operands])
        rw [e0] at hx
        exact ⟨undef, _, .tt, by simp only [stepOp, e1, e2, e3, e4, show ev _ x = _ from hx], trivial, rfl⟩
      · cases h
    · rename_i e e1 e2 e3 e4
      split at h
      · rename_i e5 e6
        obtain ⟨xs, rd, h1, h2⟩ := bytesA_ok (rs := rs) h
        refine ⟨_, _, h1, fun hop hm hr => ?_⟩
        obtain ⟨A, c, h3, h4⟩ := h2 (hop x (by simp [Op.operands])) hm hr
        exact ⟨.string (strOfNums xs), _, .bytes A xs.length (strOfNums xs), by simp only [stepOp, e1, e2, e3, e4, e5, e6, h3], h4, rfl⟩
      · cases h
    · cases h
  · -- nilCheck
    rename_i x
    split at h
    · rename_i e
      refine ⟨_, _, h, fun hop hm hr => ?_⟩
      have hx := hop x (by simp [Op.operands]); rw [e] at hx
      obtain ⟨b, sz, h1, h2⟩ := hx
      exact ⟨undef, _, .tt, by simp only [stepOp, h1], trivial, b, sz, rfl, h2⟩
    · rename_i e
      refine ⟨_, _, h, fun hop hm hr => ?_⟩
      have hx := hop x (by simp [Op.operands]); rw [e] at hx
      obtain ⟨b, n, c, sz, h1, h2⟩ := hx
      exact ⟨undef, _, .tt, by simp only [stepOp, h1], trivial, b, n, c, sz, rfl, h2⟩
    · rename_i e
      refine ⟨_, _, h, fun hop hm hr => ?_⟩
      have hx := hop x (by simp [Op.operands]); rw [e] at hx
      obtain ⟨b, o, cs, h1, h2⟩ := hx
      exact ⟨undef, _, .tt, by simp only [stepOp, h1], trivial, b, o, cs, rfl, h2⟩
    · rename_i e
      refine ⟨_, _, h, fun hop hm hr => ?_⟩
      have hx := hop x (by simp [Op.operands]); rw [e] at hx
      obtain ⟨b, n, c, sz, h1, h2⟩ := hx
      exact ⟨undef, _, .tt, by simp only [stepOp, h1], trivial, b, n, c, sz, rfl, h2⟩
    · cases h
  · -- fieldAddr
    rename_i t x f
    split at h
    · rename_i fs e1 e2
      split at h
      · rename_i off ft e3
        obtain ⟨h1, h2⟩ := bif_none h
        obtain ⟨v, h3, h4⟩ := addOff_ok (rs := rs) h2
        refine ⟨_, _, h3, fun hop hm hr => ?_⟩
        obtain ⟨ad, h5, h6⟩ := h4 (hop x (by simp [Op.operands]))
        exact ⟨undef, _, .tt, fieldAddr_step e1 e2 e3 h1 h5, trivial, h6⟩
      · cases h
    · cases h
  · -- field
    rename_i t x f
    split at h
    · rename_i fs cs e1 e2 e4
      split at h
      · rename_i off ft e3
        obtain ⟨v, h3, h4⟩ := partA_partV (rs := rs) (vs := []) h
        refine ⟨_, _, h3, fun hop hm hr => ?_⟩
        have hx := hop x (by simp [Op.operands]); rw [e4] at hx
        obtain ⟨vs, h5, h6⟩ := hx
        obtain ⟨v', h7, h8⟩ := h4 h6
        exact ⟨undef, _, .tt, field_step e1 e2 e3 h5 h7, trivial, h8⟩
      · cases h
    · cases h
  · -- extract
    rename_i x i
    split at h
    · rename_i vs e
      split at h
      · rename_i v e2
        refine ⟨_, _, h, fun hop hm hr => ?_⟩
        have hx := hop x (by simp [Op.operands]); rw [e] at hx
        obtain ⟨us, h5, h6⟩ := hx
        obtain ⟨v', h7, h8⟩ := h6.get e2
        exact ⟨undef, v', .tt, by simp only [stepOp, h5]; simp [h7], trivial, h8⟩
      · cases h
    · cases h
  · -- makeFunc
    rename_i f first cap
    refine ⟨_, _, h, fun hop hm hr => ⟨undef, _, .tt, rfl, trivial, _, _, rfl, relL_fn fun x hx => hop x (by simp [Op.operands]; exact .inl (by simpa using hx)), relL_fn fun x hx => hop x (by simp [Op.operands]; exact .inr (by simpa using hx))⟩⟩
  · -- load
    rename_i t a
    obtain ⟨v, rd, h1, h2⟩ := loadA_ok ok h
    refine ⟨v, rd, h1, fun hop hm hr => ?_⟩
    obtain ⟨v', h3, h4⟩ := h2 (hop a (by simp [Op.operands])) hm hr
    obtain ⟨ld, c, h5, h6⟩ := h3.step
    exact ⟨ld, v', c, h5, h6, h4⟩
  · -- index
    rename_i t x i
    split at h
    · rename_i s k' n e1 e2 e3 e4
      obtain ⟨h1, h2⟩ := ite_none h
      refine ⟨_, _, h2, fun hop hm hr => ?_⟩
      have hx := hop x (by simp [Op.operands]); rw [e3] at hx
      have hi := hop i (by simp [Op.operands]); rw [e4] at hi
      exact ⟨undef, _, .idx n s.size, by simp only [stepOp, e1, e2, show ev _ x = _ from hx, show ev _ i = _ from hi], h1, rfl⟩
    · cases h
  · -- indexAddr
    rename_i t x i
    obtain ⟨a, rd, h1, h2⟩ := indexAddrA_ok ok h
    refine ⟨a, rd, h1, fun hop hm hr => ?_⟩
    obtain ⟨v, c, h3, h4, h5⟩ := h2 (hop x (by simp [Op.operands])) (hop i (by simp [Op.operands])) hm hr
    exact ⟨undef, v, c, h3, h4, h5⟩
  · -- slice
    rename_i t x lo hi mx
    obtain ⟨a, rd, h1, h2⟩ := sliceA_ok ok h
    refine ⟨a, rd, h1, fun hop hm hr => ?_⟩
    obtain ⟨v, c, h3, h4, h5⟩ := h2 (hop x (by simp [Op.operands])) (relO_opt fun y e => hop y (by simp [Op.operands, e])) (relO_opt fun y e => hop y (by simp [Op.operands, e])) (relO_opt fun y e => hop y (by simp [Op.operands, e])) hm hr
    exact ⟨undef, v, c, h3, h4, h5⟩
  · -- build
    rename_i t parts
    split at h
    · rename_i fs e1 e2
      split at h
      · rename_i z e3
        obtain ⟨hall, h⟩ := bif_none h
        obtain ⟨cs, h1, h2⟩ := fillA_ok (rs := rs) h
        refine ⟨_, _, h1, fun {ρ I w w0 M F m' E} hop hm hr => ?_⟩
        obtain ⟨ds, h3, h4⟩ := h2 (ρ := ρ) (I := I) (w := w) (qs := parts.toList.map fun p => (p.1, ev E p.2)) (by simp) (by
          intro i a q ha hq
          simp only [List.getElem?_map, Option.map_eq_some_iff] at ha hq
          obtain ⟨p, hp, rfl⟩ := ha
          obtain ⟨p', hp', rfl⟩ := hq
          rw [hp] at hp'; cases hp'
          exact ⟨rfl, hop _ (by simp only [Op.operands, List.mem_map]; exact ⟨p, List.mem_of_getElem? hp, rfl⟩)⟩) (zeroA_ok e3).2
        refine ⟨undef, .agg ds.toArray, .tt, ?_, trivial, ds, rfl, h4⟩
        simp only [stepOp, buildV, e1, e2, hall, if_true, h3, Option.map_some]
      · cases h
    · cases h
  · -- len
    rename_i x t
    obtain ⟨n, rd, h1, h2⟩ := lenOf_ok (rs := rs) h
    refine ⟨_, rd, h1, fun hop hm hr => ?_⟩
    exact ⟨undef, _, .tt, h2 (hop x (by simp [Op.operands, Call.operands])) hm hr, trivial, rfl⟩
  · -- min
    rename_i x y _
    split at h
    · rename_i e1 e2
      obtain ⟨rfl, h2⟩ := ite_none h
      refine ⟨_, _, h2, fun hop hm hr => ?_⟩
      have hx := hop x (by simp [Op.operands, Call.operands]); rw [e1] at hx
      have hy := hop y (by simp [Op.operands, Call.operands]); rw [e2] at hy
      exact ⟨undef, _, .tt, by simp only [stepOp, show ev _ x = _ from hx, show ev _ y = _ from hy], trivial, rfl⟩
    · cases h
  · rename_i x y _
    split at h
    · rename_i e1 e2
      obtain ⟨rfl, h2⟩ := ite_none h
      refine ⟨_, _, h2, fun hop hm hr => ?_⟩
      have hx := hop x (by simp [Op.operands, Call.operands]); rw [e1] at hx
      have hy := hop y (by simp [Op.operands, Call.operands]); rw [e2] at hy
      exact ⟨undef, _, .tt, by simp only [stepOp, show ev _ x = _ from hx, show ev _ y = _ from hy], trivial, rfl⟩
    · cases h
  · cases h
end
end Go.VX

/- VX, part i: values are matched with shapes. -/
namespace Go.VX
noncomputable section
open Go Go.SX Go.RowKit
set_option linter.unusedVariables false
variable {S : Nat → Type} {rs : RS S} {ρ ρ' : Hd} {I I' : Nat → Prop} {w w' w0 : World} {M : Nat → Prop} {F : List It} {m m1 m2 m' : Nat → Option (AI S)} {cx : Cx S} {P : Program} {β : Type} {r : β} {env : Env S} {its its1 : Its S} {E : List Value}

def Mon (m m1 : Nat → Option (AI S)) : Prop := ∀ j, m1 j = m j ∨ chg (m j) (m1 j) = true
def ovr (m m1 m' : Nat → Option (AI S)) : Nat → Option (AI S) := fun j => if chg (m j) (m1 j) = true then m1 j else m' j
theorem Mon.refl (m : Nat → Option (AI S)) : Mon m m := fun j => .inl rfl
theorem chg_self (a : Option (AI S)) : chg a a = false := by
  cases a with
  | none => rfl
  | some a => cases a <;> rfl
theorem chg_trans {a b c : Option (AI S)} (h1 : b = a ∨ chg a b = true) (h2 : c = b ∨ chg b c = true) : (c = a ∨ chg a c = true) ∧ (chg b c = true → chg a c = true) ∧ (c = b → chg a c = chg a b) := by
  rcases h1 with rfl | h1
  · exact ⟨h2, fun h => h, fun e => by rw [e]⟩
  · rcases h2 with rfl | h2
    · exact ⟨.inr h1, ⟨fun h => (by rw [chg_self] at h; cases h), fun _ => rfl⟩⟩
    · have : chg a c = true := by
        cases a with
        | none => cases b with
          | none => cases h1
          | some b => cases c with
            | none => cases b <;> cases h2
            | some c => rfl
        | some a => cases b with
          | none => cases a <;> cases h1
          | some b => cases a <;> cases b <;> cases h1 <;> (cases c with
            | none => cases h2
            | some c => cases c <;> cases h2)
      exact ⟨.inr this, fun _ => this, fun e => (by rw [e] at h2; rw [chg_self] at h2; cases h2)⟩
theorem Mon.trans (h1 : Mon m m1) (h2 : Mon m1 m2) : Mon m m2 := fun j => (chg_trans (h1 j) (h2 j)).1
theorem ovr_trans (h1 : Mon m m1) (h2 : Mon m1 m2) : ovr m1 m2 (ovr m m1 m') = ovr m m2 m' := by
  funext j
  obtain ⟨_, h3, h4⟩ := chg_trans (h1 j) (h2 j)
  simp only [ovr]
  rcases h2 j with e | e
  · rw [h4 e, e, chg_self]; simp
  · rw [if_pos e, if_pos (h3 e)]
theorem ovr_self : ovr m m m' = m' := by
  funext j
  simp only [ovr, chg_self]; simp
theorem ovr_at {id : Nat} (h1 : Mon m m1) (h : m' id = m id) : ovr m m1 m' id = m1 id := by
  simp only [ovr]
  rcases h1 id with e | e
  · rw [e, chg_self]; simpa using h
  · rw [if_pos e]
/-- A step that leaves the world as it is: what is one's own is seen otherwise. -/
structure Stp (rs : RS S) (m m1 : Nat → Option (AI S)) (nx nx1 : Nat) (d : List Nat) {τ : Type} (A B : Hd → (Nat → Prop) → World → τ → Prop) : Prop where
  le : nx ≤ nx1
  mon : (∀ j, nx ≤ j → m j = none) → Mon m m1
  fr : (∀ j, nx ≤ j → m j = none) → ∀ j, nx1 ≤ j → m1 j = none
  go : ∀ {ρ : Hd} {I : Nat → Prop} {w w0 : World} {M : Nat → Prop} {F : List It} {m' : Nat → Option (AI S)}, (∀ id ∈ d, m' id = m id) → (∀ j, nx ≤ j → m j = none) → (∀ j, nx ≤ j → j < nx1 → ρ j = none ∧ m' j = none) → HR rs ρ I w w0 M F m' →
    ∃ ρ' I', Le ρ ρ' ∧ (∀ j, ¬(nx ≤ j ∧ j < nx1) → ρ' j = ρ j) ∧ Kp I w I' w ∧ HR rs ρ' I' w w0 M F (ovr m m1 m') ∧ ∀ v, A ρ I w v → B ρ' I' w v
theorem Stp.refl {nx : Nat} {d : List Nat} {τ : Type} {A B : Hd → (Nat → Prop) → World → τ → Prop} (h : ∀ ρ I w w0 M F m', (∀ id ∈ d, m' id = m id) → HR rs ρ I w w0 M F m' → ∀ v, A ρ I w v → B ρ I w v) : Stp rs m m nx nx d A B :=
  ⟨Nat.le_refl _, fun _ => Mon.refl _, fun h => h, fun hd _ _ hr => ⟨_, _, Le.refl _, fun _ _ => rfl, Kp.refl, by rw [ovr_self]; exact hr, h _ _ _ _ _ _ _ hd hr⟩⟩
theorem Stp.sub {nx nx1 : Nat} {d d' : List Nat} {τ : Type} {A B A' B' : Hd → (Nat → Prop) → World → τ → Prop} (h : Stp rs m m1 nx nx1 d A B) (hd : ∀ x ∈ d, x ∈ d') (hA : ∀ ρ I w v, A' ρ I w v → A ρ I w v) (hB : ∀ ρ I w v, B ρ I w v → B' ρ I w v) : Stp rs m m1 nx nx1 d' A' B' :=
  ⟨h.le, h.mon, h.fr, fun hd' h1 h2 hr => by
    obtain ⟨ρ', I', q1, q2, q3, q4, q5⟩ := h.go (fun id hi => hd' id (hd id hi)) h1 h2 hr
    exact ⟨ρ', I', q1, q2, q3, q4, fun v hv => hB _ _ _ _ (q5 v (hA _ _ _ _ hv))⟩⟩
theorem Stp.trans {nx nx1 nx2 : Nat} {d d' : List Nat} {τ : Type} {A B A' B' C : Hd → (Nat → Prop) → World → τ → Prop} (h : Stp rs m m1 nx nx1 d A B) (k : Stp rs m1 m2 nx1 nx2 d' A' B') (hd : ∀ x ∈ d, x ∈ d')
    (hA : ∀ ρ I w ρ' I' v, Le ρ ρ' → Kp I w I' w → A ρ I w v → B ρ' I' w v → A' ρ' I' w v)
    (hC : ∀ ρ I w ρ1 I1 ρ' I' v, Le ρ ρ1 → Kp I w I1 w → Le ρ1 ρ' → Kp I1 w I' w → A ρ I w v → B ρ1 I1 w v → B' ρ' I' w v → C ρ' I' w v) : Stp rs m m2 nx nx2 d' A C :=
  ⟨Nat.le_trans h.le k.le, fun h0 => (h.mon h0).trans (k.mon (h.fr h0)), fun h0 => k.fr (h.fr h0), fun {ρ I w w0 M F m'} hd' h1 h2 hr => by
    obtain ⟨ρ1, I1, q1, q2, q3, q4, q5⟩ := h.go (fun id hi => hd' id (hd id hi)) h1 (fun j a b => h2 j a (Nat.lt_of_lt_of_le b k.le)) hr
    obtain ⟨ρ', I', p1, p2, p3, p4, p5⟩ := k.go (fun id hi => ovr_at (h.mon h1) (hd' id hi)) (h.fr h1) (fun j a b => by
      obtain ⟨e1, e2⟩ := h2 j (Nat.le_trans h.le a) b
      refine ⟨by rw [q2 j (by omega)]; exact e1, ?_⟩
      simp only [ovr]
      rw [h.fr h1 j a, h1 j (Nat.le_trans h.le a)]
      simpa [chg] using e2) q4
    rw [ovr_trans (h.mon h1) (k.mon (h.fr h1))] at p4
    have hle := h.le
    have kle := k.le
    exact ⟨ρ', I', q1.trans p1, fun j hj => by rw [p2 j (by omega), q2 j (by omega)], q3.trans p3, p4, fun v hv => hC _ _ _ _ _ _ _ v q1 q3 p1 p3 hv (q5 v hv) (p5 v (hA _ _ _ _ _ v q1 q3 hv (q5 v hv)))⟩⟩

theorem Stp.lift {nx nx1 : Nat} {d : List Nat} {σ τ : Type} {u : σ} {A0 B0 : Hd → (Nat → Prop) → World → σ → Prop} {A B : Hd → (Nat → Prop) → World → τ → Prop} (h : Stp rs m m1 nx nx1 d A0 B0) (h0 : ∀ ρ I w, A0 ρ I w u) (hB : ∀ ρ I w ρ' I' v, Le ρ ρ' → Kp I w I' w → A ρ I w v → B0 ρ' I' w u → B ρ' I' w v) : Stp rs m m1 nx nx1 d A B :=
  ⟨h.le, h.mon, h.fr, fun hd h1 h2 hr => by
    obtain ⟨ρ', I', q1, q2, q3, q4, q5⟩ := h.go hd h1 h2 hr
    exact ⟨ρ', I', q1, q2, q3, q4, fun v hv => hB _ _ _ _ _ _ q1 q3 hv (q5 u (h0 _ _ _))⟩⟩
theorem lkI_upd_some {id : Nat} {x y : AI S} (h : lkI id its = some y) : (fun j => lkI j (updF id x its)) = upd (fun j => lkI j its) id (some x) := by
  funext j
  rw [lkI_upd, h]
  simp [upd]
theorem ovr_upd {id : Nat} {c : TC} {t sz : Nat} {xs ys : List (c.D S)} {z z' : Nz} {c' : TC} {ys' : List (c'.D S)} (h : m id = some (.sl c t sz xs z)) : ovr m (upd m id (some (.ro c' ys' z'))) m' = upd m' id (some (.ro c' ys' z')) := by
  funext j
  simp only [ovr, upd]
  by_cases e : j = id
  · subst e; simp [h, chg]
  · simp [e, chg_self]
theorem mon_upd {id : Nat} {c : TC} {t sz : Nat} {xs : List (c.D S)} {z z' : Nz} {c' : TC} {ys' : List (c'.D S)} (h : m id = some (.sl c t sz xs z)) : Mon m (upd m id (some (.ro c' ys' z'))) := fun j => by
  simp only [upd]
  by_cases e : j = id
  · subst e; right; simp [h, chg]
  · left; simp [e]
/-- A slice of one's own is given away. -/
theorem give_ok (id : Nat) {nx : Nat} {c : TC} {t sz : Nat} {xs : List (c.D S)} {z : Nz} (h : m id = some (.sl c t sz xs z)) (hsub : m = fun j => lkI j its) : Stp rs m (fun j => lkI j (updF id (.ro c xs z) its)) nx nx [id] (fun _ _ _ (_ : Unit) => True) (fun ρ I w _ => RoR rs ρ I w id (.ro c xs z)) := by
  have hl : lkI id its = some (.sl c t sz xs z) := by rw [hsub] at h; exact h
  rw [lkI_upd_some hl, ← hsub]
  refine ⟨Nat.le_refl _, fun _ => mon_upd h, fun h0 j hj => ?_, fun {ρ I w w0 M F m'} hd h1 h2 hr => ?_⟩
  · simp only [upd]
    by_cases e : j = id
    · subst e; rw [h0 j hj] at h; cases h
    · simpa [e] using h0 j hj
  · rcases hr.focus ((hd id (by simp)).trans h) with ⟨its2, L, p, k1, k2, k3, k4, ⟨A, cap, cl, h6, rfl, h7, h8, h9⟩, s⟩ | ⟨_, _, _, _, _, _, hf, _⟩
    · have hh := s.here _ (List.mem_cons_self ..)
      obtain ⟨g1, g2⟩ := St.lend s (i := 0) rfl rfl h8
      have g3 := s.shut 0 rfl
      have hro : RoR rs ρ (fun k => I k ∨ (It.sl (.slice A xs.length cap) t sz xs.length cl).foot = some k) w id (.ro c xs z) := by
        refine ⟨A, cap, sz, h6, h7, g1, g2, h9, ?_⟩
        obtain ⟨_, ⟨e1, e2⟩ | ⟨g, cap', cur, e1, _⟩⟩ := hh
        · simp only [Value.slice.injEq] at e1
          exact .inl ⟨e1.1, List.eq_nil_of_length_eq_zero e2, e1.2.2⟩
        · simp only [Value.slice.injEq] at e1
          exact .inr ⟨g, e1.1, .inr (by rw [e1.1]; rfl)⟩
      refine ⟨ρ, _, Le.refl _, fun _ _ => rfl, Kp.shut (p := .sl (.slice A xs.length cap) t sz xs.length cl), ?_, fun _ _ => hro⟩
      rw [ovr_upd (ys := xs) h]
      exact HR.pushRo k1 k2 k3 (ItsR.mono (Le.refl _) Kp.shut k4) hro (by simpa using g3)
    · exact hf.elim
theorem asRo_ok {c : TC} {v : AV S} {nx : Nat} {k : List (c.D S) → Nz → Its S → List Nat → Option β} (h : asRo c v its k = some r) :
    ∃ xs z its1 d, k xs z its1 d = some r ∧ Stp rs (fun j => lkI j its) (fun j => lkI j its1) nx nx d (fun ρ I w v' => Rel rs ρ I w v v') (fun ρ I w v' => Rel rs ρ I w (.ro c xs z) v') := by
  unfold asRo at h
  split at h
  · exact ⟨_, _, _, _, h, Stp.refl fun ρ I w w0 M F m' _ _ v hv => by cases hv; exact ⟨none, 0, rfl, ⟨Nat.le_refl _, by omega⟩, Elems.nil, rfl, fun _ => rfl⟩⟩
  · split at h
    · rename_i c' xs z e
      subst e
      exact ⟨_, _, _, _, h, Stp.refl fun ρ I w w0 M F m' _ _ v hv => hv⟩
    · cases h
  · rename_i id
    split at h
    · rename_i c' t sz xs z e1
      split at h
      · rename_i e
        subst e
        rw [updI_eq] at h
        exact ⟨_, _, _, _, h, (give_ok (rs := rs) (m := fun j => lkI j its) id (nx := nx) e1 rfl).lift (u := ()) (fun _ _ _ => trivial) fun ρ I w ρ' I' v hr hk hv hb => own_ro (Rel.mono hr hk _ _ hv) hb⟩
      · cases h
    · split at h
      · rename_i e
        subst e
        exact ⟨_, _, _, _, h, Stp.refl fun ρ I w w0 M F m' hd hr v hv => own_ro hv (hr.ro ((hd id (by simp)).trans (by assumption)))⟩
      · cases h
    · cases h
  · rename_i id lo hi
    split at h
    · rename_i c' t sz xs z e1
      split at h
      · rename_i e
        subst e
        rw [updI_eq] at h
        obtain ⟨ys, h1, h2⟩ := bindS h
        exact ⟨_, _, _, _, h2, (give_ok (rs := rs) (m := fun j => lkI j its) id (nx := nx) e1 rfl).lift (u := ()) (fun _ _ _ => trivial) fun ρ I w ρ' I' v hr hk hv hb => part_ro (Rel.mono hr hk _ _ hv) hb h1⟩
      · cases h
    · split at h
      · rename_i e
        subst e
        obtain ⟨ys, h1, h2⟩ := bindS h
        exact ⟨_, _, _, _, h2, Stp.refl fun ρ I w w0 M F m' hd hr v hv => part_ro hv (hr.ro ((hd id (by simp)).trans (by assumption))) h1⟩
      · cases h
    · cases h
  · cases h
end
end Go.VX

/- VX, part j: shapes, matched. -/
namespace Go.VX
noncomputable section
open Go Go.SX Go.RowKit
set_option linter.unusedVariables false
variable {S : Nat → Type} {rs : RS S} {ρ ρ' : Hd} {I I' : Nat → Prop} {w w' w0 : World} {M : Nat → Prop} {F : List It} {m m1 m2 m' : Nat → Option (AI S)} {cx : Cx S} {P : Program} {β : Type} {r : β} {env : Env S} {its its1 : Its S} {E : List Value}

theorem hdL_consL {s : ShV} : ∀ {l : List ShV} {x : s.ty S} {y : ShV.tyL S l}, hdL (consL x y) = x
  | [], _, _ => rfl
  | _ :: _, _, _ => rfl
theorem tlL_consL {s : ShV} : ∀ {l : List ShV} {x : s.ty S} {y : ShV.tyL S l}, tlL (consL x y) = y
  | [], _, _ => rfl
  | _ :: _, _, _ => rfl
theorem hd_cons {α : Type} {f : α → Type} {a : α} : ∀ {l : List α} {x : f a} {y : Tup f l}, (Tup.cons x y).hd = x
  | [], _, _ => rfl
  | _ :: _, _, _ => rfl
theorem tl_cons {α : Type} {f : α → Type} {a : α} : ∀ {l : List α} {x : f a} {y : Tup f l}, (Tup.cons x y).tl = y
  | [], _, _ => rfl
  | _ :: _, _, _ => rfl
theorem P2.a_mk {A : Type} : ∀ {l : List (Nat × ShI)} {x : A} {y : tyI S l}, P2.a (P2.mk x y) = x
  | [], _, _ => rfl
  | _ :: _, _, _ => rfl
theorem P2.b_mk {A : Type} : ∀ {l : List (Nat × ShI)} {x : A} {y : tyI S l}, P2.b (P2.mk x y) = y
  | [], _, _ => rfl
  | _ :: _, _, _ => rfl
theorem Stp.cons {nx nx1 nx2 : Nat} {d d' : List Nat} {v a : AV S} {vs l : List (AV S)} (h : Stp rs m m1 nx nx1 d (fun ρ I w => Rel rs ρ I w v) (fun ρ I w => Rel rs ρ I w a)) (k : Stp rs m1 m2 nx1 nx2 d' (fun ρ I w => RelL rs ρ I w vs) (fun ρ I w => RelL rs ρ I w l)) (hd : ∀ x ∈ d, x ∈ d') :
    Stp rs m m2 nx nx2 d' (fun ρ I w => RelL rs ρ I w (v :: vs)) (fun ρ I w => RelL rs ρ I w (a :: l)) := by
  refine ⟨Nat.le_trans h.le k.le, fun h0 => (h.mon h0).trans (k.mon (h.fr h0)), fun h0 => k.fr (h.fr h0), fun {ρ I w w0 M F m'} hd' h1 h2 hr => ?_⟩
  obtain ⟨ρ1, I1, q1, q2, q3, q4, q5⟩ := h.go (fun id hi => hd' id (hd id hi)) h1 (fun j a b => h2 j a (Nat.lt_of_lt_of_le b k.le)) hr
  obtain ⟨ρ', I', p1, p2, p3, p4, p5⟩ := k.go (fun id hi => ovr_at (h.mon h1) (hd' id hi)) (h.fr h1) (fun j a b => by
      obtain ⟨e1, e2⟩ := h2 j (Nat.le_trans h.le a) b
      refine ⟨by rw [q2 j (by omega)]; exact e1, ?_⟩
      simp only [ovr]
      rw [h.fr h1 j a, h1 j (Nat.le_trans h.le a)]
      simpa [chg] using e2) q4
  rw [ovr_trans (h.mon h1) (k.mon (h.fr h1))] at p4
  have hle := h.le
  have kle := k.le
  refine ⟨ρ', I', q1.trans p1, fun j hj => by rw [p2 j (by omega), q2 j (by omega)], q3.trans p3, p4, ?_⟩
  rintro us ⟨u, us', e, hu, hus⟩
  exact ⟨u, us', e, Rel.mono p1 p3 _ _ (q5 u hu), p5 us' (RelL.mono q1 q3 _ _ hus)⟩
theorem Stp.nilL {nx : Nat} {d : List Nat} : Stp rs m m nx nx d (fun ρ I w => RelL rs ρ I w ([] : List (AV S))) (fun ρ I w => RelL rs ρ I w ([] : List (AV S))) := Stp.refl fun _ _ _ _ _ _ _ _ _ _ h => h
theorem Stp.same {nx : Nat} {d : List Nat} {a b : AV S} (h : ∀ ρ I w v, Rel rs ρ I w a v → Rel rs ρ I w b v) : Stp rs m m nx nx d (fun ρ I w => Rel rs ρ I w a) (fun ρ I w => Rel rs ρ I w b) := Stp.refl fun _ _ _ _ _ _ _ _ _ _ hv => h _ _ _ _ hv
theorem roUnk {c : TC} {xs : List (c.D S)} {z z' : Nz} {v : Value} (hz : nzLe z z' = true) (h : Rel rs ρ I w (.ro c xs z) v) : Rel rs ρ I w (.ro c xs z') v := by
  obtain ⟨A, cap, h1, h2, h3, h4⟩ := h
  refine ⟨A, cap, h1, h2, h3, ?_, h4.2⟩
  cases z <;> cases z' <;> first | exact h4.1 | trivial | cases hz
theorem mkS_int {i : IntKind} : ∀ {l : List ShV} {x : Int} {y : ShV.tyL S l}, mkS (.int i :: l) (consL (s := .int i) x y) = .int i x :: mkS l y
  | [], _, _ => rfl
  | _ :: _, _, _ => rfl
theorem mkS_bl : ∀ {l : List ShV} {x : Bool} {y : ShV.tyL S l}, mkS (.bl :: l) (consL (s := .bl) x y) = .bl x :: mkS l y
  | [], _, _ => rfl
  | _ :: _, _, _ => rfl
theorem mkS_str : ∀ {l : List ShV} {x : ByteArray} {y : ShV.tyL S l}, mkS (.str :: l) (consL (s := .str) x y) = .str x :: mkS l y
  | [], _, _ => rfl
  | _ :: _, _, _ => rfl
theorem mkS_ro {c : TC} : ∀ {l : List ShV} {x : List (c.D S)} {y : ShV.tyL S l}, mkS (.ro c :: l) (consL (s := .ro c) x y) = .ro c x .unk :: mkS l y
  | [], _, _ => rfl
  | _ :: _, _, _ => rfl
theorem ofS_ok : ∀ {l : List ShV} {vs : List (AV S)} {its : Its S} {nx : Nat} {k : ShV.tyL S l → Its S → List Nat → Option β}, ofS l vs its k = some r →
    ∃ x its1 d, k x its1 d = some r ∧ Stp rs (fun j => lkI j its) (fun j => lkI j its1) nx nx d (fun ρ I w => RelL rs ρ I w vs) (fun ρ I w => RelL rs ρ I w (mkS l x)) := by
  intro l
  induction l with
  | nil =>
    intro vs its nx k h
    cases vs with
    | nil => exact ⟨_, _, _, h, Stp.nilL⟩
    | cons v vs => simp [ofS] at h
  | cons s l ih =>
    intro vs its nx k h
    cases vs with
    | nil => cases s <;> simp [ofS] at h
    | cons v vs =>
      cases s
      case int i =>
        cases v
        case int i' x =>
          simp only [ofS] at h
          obtain ⟨rfl, h1⟩ := ite_none h
          obtain ⟨x, its1, d, h2, h3⟩ := ih (nx := nx) h1
          refine ⟨_, _, _, h2, ?_⟩
          rw [mkS_int]
          exact Stp.cons (d := []) (Stp.same fun _ _ _ _ h => h) h3 (by simp)
        all_goals simp [ofS] at h
      case bl =>
        cases v
        case bl b =>
          simp only [ofS] at h
          obtain ⟨x, its1, d, h2, h3⟩ := ih (nx := nx) h
          refine ⟨_, _, _, h2, ?_⟩
          rw [mkS_bl]
          exact Stp.cons (d := []) (Stp.same fun _ _ _ _ h => h) h3 (by simp)
        case pr p i =>
          simp only [ofS] at h
          obtain ⟨x, its1, d, h2, h3⟩ := ih (nx := nx) h
          refine ⟨_, _, _, h2, ?_⟩
          rw [mkS_bl]
          exact Stp.cons (d := []) (Stp.same fun _ _ _ _ h => h) h3 (by simp)
        all_goals simp [ofS] at h
      case str =>
        cases v
        case str b =>
          simp only [ofS] at h
          obtain ⟨x, its1, d, h2, h3⟩ := ih (nx := nx) h
          refine ⟨_, _, _, h2, ?_⟩
          rw [mkS_str]
          exact Stp.cons (d := []) (Stp.same fun _ _ _ _ h => h) h3 (by simp)
        all_goals simp [ofS] at h
      case ro c =>
        simp only [ofS] at h
        obtain ⟨xs, z, its1, d, h1, h2⟩ := asRo_ok (rs := rs) (nx := nx) h
        obtain ⟨x, its2, d', h3, h4⟩ := ih (nx := nx) h1
        refine ⟨_, _, _, h3, ?_⟩
        rw [mkS_ro]
        exact Stp.cons (h2.sub (fun _ h => h) (fun _ _ _ _ h => h) fun _ _ _ _ h => roUnk (by cases z <;> rfl) h) (h4.sub (d' := d ++ d') (fun x hx => List.mem_append_right _ hx) (fun _ _ _ _ h => h) fun _ _ _ _ h => h) (fun x hx => List.mem_append_left _ hx)
      all_goals simp [ofS] at h
def GLe (g g1 : Sg) : Prop := (∀ x ∈ idsG g, x ∈ idsG g1) ∧ ∀ j id, lkS j g = some id → lkS j g1 = some id
theorem GLe.refl (g : Sg) : GLe g g := ⟨fun _ h => h, fun _ _ h => h⟩
theorem GLe.trans {g g1 g2 : Sg} (h : GLe g g1) (k : GLe g1 g2) : GLe g g2 := ⟨fun x hx => k.1 x (h.1 x hx), fun j id e => k.2 j id (h.2 j id e)⟩
def Con (f : Nat → Nat) (g : Sg) : Prop := ∀ j id, lkS j g = some id → f j = id
theorem Con.sub {f : Nat → Nat} {g g1 : Sg} (h : GLe g g1) (k : Con f g1) : Con f g := fun j id e => k j id (h.2 j id e)
theorem lkS_ids : ∀ {g : Sg} {j id : Nat}, lkS j g = some id → id ∈ idsG g
  | [], _, _, h => by simp [lkS] at h
  | p :: q, j, id, h => by
    rw [lkS_cons] at h
    simp only [idsG, List.mem_cons]
    split at h
    · cases h; exact .inl rfl
    · exact .inr (lkS_ids h)
theorem bindId_ok {j id : Nat} {g : Sg} {k : Sg → Option β} (h : bindId j id g k = some r) : ∃ g1, k g1 = some r ∧ GLe g g1 ∧ lkS j g1 = some id ∧ ((g1 = g) ∨ (g1 = (j, id) :: g ∧ lkS j g = none ∧ memN id (idsG g) = false)) := by
  unfold bindId at h
  split at h
  · rename_i id' e
    obtain ⟨h1, h2⟩ := bif_none h
    have := Nat.eq_of_beq_eq_true h1
    subst this
    exact ⟨g, h2, GLe.refl _, e, .inl rfl⟩
  · rename_i e
    cases hm : memN id (idsG g)
    · rw [hm] at h
      refine ⟨_, h, ⟨fun x hx => by simp [idsG, hx], fun j' id' e' => ?_⟩, by rw [lkS_cons]; simp, .inr ⟨rfl, e, rfl⟩⟩
      rw [lkS_cons]
      have : j ≠ j' := by rintro rfl; rw [e] at e'; cases e'
      simp [this, e']
    · rw [hm] at h; cases h
/-- The numbers, and what they stand for, are one to one. -/
def GInj (g : Sg) : Prop := (idsG g).Nodup
theorem memN_iff {x : Nat} : ∀ {l : List Nat}, memN x l = true ↔ x ∈ l
  | [] => by simp [memN]
  | y :: l => by
    simp only [memN, List.mem_cons]
    by_cases h : y = x
    · subst h; simp
    · rw [ne_beq h]; simp [memN_iff, Ne.symm h]
theorem shN_rp (ok : CxOK P cx rs) (c : TC) : shN cx c = (rpC rs c).n := by
  rw [← szOf_rp ok]; cases c <;> rfl
theorem pushNil_ok (ok : CxOK P cx rs) {nx t sz : Nat} {c : TC} {d : List Nat} (hsz : sz = (rpC rs c).n) : Stp rs (fun j => lkI j its) (fun j => lkI j ((nx, .sl c t sz [] .nil) :: its)) nx (nx + 1) d (fun ρ I w => Rel rs ρ I w (.nils : AV S)) (fun ρ I w => Rel rs ρ I w (.own nx : AV S)) := by
  have hu : (fun j => lkI j ((nx, .sl c t sz [] .nil) :: its)) = upd (fun j => lkI j its) nx (some (.sl c t sz [] .nil)) := by
    funext j; rw [lkI_cons]; simp only [upd]
    by_cases e : j = nx
    · subst e; simp
    · simp [e, Ne.symm e]
  rw [hu]
  refine ⟨Nat.le_succ _, fun h0 j => ?_, fun h0 j hj => ?_, fun {ρ I w w0 M F m'} hd h1 h2 hr => ?_⟩
  · simp only [upd]
    by_cases e : j = nx
    · subst e
      right; simp [show lkI j its = none from h0 j (Nat.le_refl _), chg]
    · left; simp [e]
  · simp only [upd, if_neg (show j ≠ nx by omega)]; exact h0 j (by omega)
  · obtain ⟨e1, e2⟩ := h2 nx (Nat.le_refl _) (Nat.lt_succ_self _)
    obtain ⟨its2, L, k1, k2, k3, k4, s⟩ := (hr.mono (Le.upd (x := (.slice none 0 0, sz)) e1)).fresh e2
    refine ⟨_, I, Le.upd (x := (.slice none 0 0, sz)) e1, fun j hj => if_neg (by omega), Kp.refl, ?_, fun v hv => ⟨none, 0, 0, sz, hv, by rw [show v = .slice none 0 0 from hv]; simp⟩⟩
    have ho : ovr (fun j => lkI j its) (upd (fun j => lkI j its) nx (some (.sl c t sz [] .nil))) m' = upd m' nx (some (.sl c t sz [] .nil)) := by
      funext j
      simp only [ovr, upd]
      by_cases e : j = nx
      · subst e; simp [show lkI j its = none from h1 j (Nat.le_refl _), chg]
      · simp [e, chg_self]
    rw [ho]
    exact HR.push k1 k2 k3 k4 ⟨none, 0, [], by simp, rfl, hsz, rfl, rfl⟩ (s.pushNil t sz)
theorem pushNilP_ok (ok : CxOK P cx rs) {nx t sz : Nat} {c : TC} {d : List Nat} (hsz : sz = (rpC rs c).n) : Stp rs (fun j => lkI j its) (fun j => lkI j ((nx, .sl c t sz [] .nil) :: its)) nx (nx + 1) d (fun ρ I w => Rel rs ρ I w (.nils : AV S)) (fun ρ I w => Rel rs ρ I w (.part nx 0 0 : AV S)) := by
  have hu : (fun j => lkI j ((nx, .sl c t sz [] .nil) :: its)) = upd (fun j => lkI j its) nx (some (.sl c t sz [] .nil)) := by
    funext j; rw [lkI_cons]; simp only [upd]
    by_cases e : j = nx
    · subst e; simp
    · simp [e, Ne.symm e]
  rw [hu]
  refine ⟨Nat.le_succ _, fun h0 j => ?_, fun h0 j hj => ?_, fun {ρ I w w0 M F m'} hd h1 h2 hr => ?_⟩
  · simp only [upd]
    by_cases e : j = nx
    · subst e
      right; simp [show lkI j its = none from h0 j (Nat.le_refl _), chg]
    · left; simp [e]
  · simp only [upd, if_neg (show j ≠ nx by omega)]; exact h0 j (by omega)
  · obtain ⟨e1, e2⟩ := h2 nx (Nat.le_refl _) (Nat.lt_succ_self _)
    obtain ⟨its2, L, k1, k2, k3, k4, s⟩ := (hr.mono (Le.upd (x := (.slice none 0 0, sz)) e1)).fresh e2
    refine ⟨_, I, Le.upd (x := (.slice none 0 0, sz)) e1, fun j hj => if_neg (by omega), Kp.refl, ?_, fun v hv => ⟨none, 0, 0, sz, none, 0, 0, hv, by simp, .inl ⟨rfl, rfl, rfl, rfl, rfl, rfl⟩⟩⟩
    have ho : ovr (fun j => lkI j its) (upd (fun j => lkI j its) nx (some (.sl c t sz [] .nil))) m' = upd m' nx (some (.sl c t sz [] .nil)) := by
      funext j
      simp only [ovr, upd]
      by_cases e : j = nx
      · subst e; simp [show lkI j its = none from h1 j (Nat.le_refl _), chg]
      · simp [e, chg_self]
    rw [ho]
    exact HR.push k1 k2 k3 k4 ⟨none, 0, [], by simp, rfl, hsz, rfl, rfl⟩ (s.pushNil t sz)
end
end Go.VX

/- VX, part k: a value is matched with a shape. -/
namespace Go.VX
noncomputable section
open Go Go.SX Go.RowKit
set_option linter.unusedVariables false
variable {S : Nat → Type} {rs : RS S} {ρ ρ' : Hd} {I I' : Nat → Prop} {w w' w0 : World} {M : Nat → Prop} {F : List It} {m m1 m2 m' : Nat → Option (AI S)} {cx : Cx S} {P : Program} {β : Type} {r : β} {env : Env S} {its its1 : Its S} {E : List Value}

theorem mkL_cons {f : Nat → Nat} {s : ShV} : ∀ {l : List ShV} {x : s.ty S} {y : ShV.tyL S l}, mkL cx f (s :: l) (consL x y) = mkV cx f s x :: mkL cx f l y
  | [], _, _ => rfl
  | _ :: _, _, _ => rfl
theorem Stp.agg {nx nx1 : Nat} {d : List Nat} {a b : List (AV S)} (h : Stp rs m m1 nx nx1 d (fun ρ I w => RelL rs ρ I w a) (fun ρ I w => RelL rs ρ I w b)) : Stp rs m m1 nx nx1 d (fun ρ I w => Rel rs ρ I w (.agg a)) (fun ρ I w => Rel rs ρ I w (.agg b)) :=
  ⟨h.le, h.mon, h.fr, fun hd h1 h2 hr => by
    obtain ⟨ρ', I', q1, q2, q3, q4, q5⟩ := h.go hd h1 h2 hr
    exact ⟨ρ', I', q1, q2, q3, q4, fun v ⟨vs, e, hv⟩ => ⟨vs, e, q5 vs hv⟩⟩⟩
theorem Stp.tup {nx nx1 : Nat} {d : List Nat} {a b : List (AV S)} (h : Stp rs m m1 nx nx1 d (fun ρ I w => RelL rs ρ I w a) (fun ρ I w => RelL rs ρ I w b)) : Stp rs m m1 nx nx1 d (fun ρ I w => Rel rs ρ I w (.tup a)) (fun ρ I w => Rel rs ρ I w (.tup b)) :=
  ⟨h.le, h.mon, h.fr, fun hd h1 h2 hr => by
    obtain ⟨ρ', I', q1, q2, q3, q4, q5⟩ := h.go hd h1 h2 hr
    exact ⟨ρ', I', q1, q2, q3, q4, fun v ⟨vs, e, hv⟩ => ⟨vs, e, q5 vs hv⟩⟩⟩
theorem Stp.two {nx nx1 nx2 : Nat} {d d' : List Nat} {σ τ : Type} {A B : Hd → (Nat → Prop) → World → σ → Prop} {A' B' : Hd → (Nat → Prop) → World → τ → Prop} (h : Stp rs m m1 nx nx1 d A B) (k : Stp rs m1 m2 nx1 nx2 d' A' B') (hd : ∀ x ∈ d, x ∈ d')
    (mA : ∀ ρ I w ρ' I' v, Le ρ ρ' → Kp I w I' w → A' ρ I w v → A' ρ' I' w v) (mB : ∀ ρ I w ρ' I' v, Le ρ ρ' → Kp I w I' w → B ρ I w v → B ρ' I' w v) :
    Stp rs m m2 nx nx2 d' (fun ρ I w (v : σ × τ) => A ρ I w v.1 ∧ A' ρ I w v.2) (fun ρ I w v => B ρ I w v.1 ∧ B' ρ I w v.2) := by
  refine ⟨Nat.le_trans h.le k.le, fun h0 => (h.mon h0).trans (k.mon (h.fr h0)), fun h0 => k.fr (h.fr h0), fun {ρ I w w0 M F m'} hd' h1 h2 hr => ?_⟩
  obtain ⟨ρ1, I1, q1, q2, q3, q4, q5⟩ := h.go (fun id hi => hd' id (hd id hi)) h1 (fun j a b => h2 j a (Nat.lt_of_lt_of_le b k.le)) hr
  obtain ⟨ρ', I', p1, p2, p3, p4, p5⟩ := k.go (fun id hi => ovr_at (h.mon h1) (hd' id hi)) (h.fr h1) (fun j a b => by
      obtain ⟨e1, e2⟩ := h2 j (Nat.le_trans h.le a) b
      refine ⟨by rw [q2 j (by omega)]; exact e1, ?_⟩
      simp only [ovr]
      rw [h.fr h1 j a, h1 j (Nat.le_trans h.le a)]
      simpa [chg] using e2) q4
  rw [ovr_trans (h.mon h1) (k.mon (h.fr h1))] at p4
  have hle := h.le
  have kle := k.le
  exact ⟨ρ', I', q1.trans p1, fun j hj => by rw [p2 j (by omega), q2 j (by omega)], q3.trans p3, p4, fun v ⟨a, b⟩ => ⟨mB _ _ _ _ _ _ p1 p3 (q5 _ a), p5 _ (mA _ _ _ _ _ _ q1 q3 b)⟩⟩
theorem Stp.fn {nx nx1 : Nat} {d : List Nat} {g : Nat} {a b a' b' : List (AV S)} (h : Stp rs m m1 nx nx1 d (fun ρ I w (v : List Value × List Value) => RelL rs ρ I w a v.1 ∧ RelL rs ρ I w b v.2) (fun ρ I w v => RelL rs ρ I w a' v.1 ∧ RelL rs ρ I w b' v.2)) : Stp rs m m1 nx nx1 d (fun ρ I w => Rel rs ρ I w (.fn g a b)) (fun ρ I w => Rel rs ρ I w (.fn g a' b')) :=
  ⟨h.le, h.mon, h.fr, fun hd h1 h2 hr => by
    obtain ⟨ρ', I', q1, q2, q3, q4, q5⟩ := h.go hd h1 h2 hr
    exact ⟨ρ', I', q1, q2, q3, q4, fun v ⟨vs, us, e, hv, hu⟩ => ⟨vs, us, e, (q5 (vs, us) ⟨hv, hu⟩).1, (q5 (vs, us) ⟨hv, hu⟩).2⟩⟩⟩
theorem GInj.bind {j id : Nat} {g g1 : Sg} (h : (g1 = g) ∨ (g1 = (j, id) :: g ∧ lkS j g = none ∧ memN id (idsG g) = false)) (hg : GInj g) : GInj g1 := by
  rcases h with rfl | ⟨rfl, _, h⟩
  · exact hg
  · refine List.nodup_cons.2 ⟨fun hm => ?_, hg⟩
    rw [memN_iff.2 hm] at h; cases h
/-- What a match yields. -/
def Mt (rs : RS S) (g : Sg) (its : Its S) (nx : Nat) (d : List Nat) {τ σ : Type} (k : τ → Sg → Its S → Nat → List Nat → Option β) (r : β) (A : Hd → (Nat → Prop) → World → σ → Prop) (B : (Nat → Nat) → τ → Hd → (Nat → Prop) → World → σ → Prop) : Prop :=
  ∃ x g1 its1 nx1 d1, k x g1 its1 nx1 d1 = some r ∧ GLe g g1 ∧ (∀ a ∈ d, a ∈ d1) ∧ (GInj g → GInj g1) ∧ ∀ f, Con f g1 → Stp rs (fun j => lkI j its) (fun j => lkI j its1) nx nx1 (d1 ++ idsG g1) A (B f x)
theorem Mt.bind {j id : Nat} {g : Sg} {nx : Nat} {d : List Nat} {τ σ : Type} {x : τ} {k : τ → Sg → Its S → Nat → List Nat → Option β} {A : Hd → (Nat → Prop) → World → σ → Prop} {B : (Nat → Nat) → τ → Hd → (Nat → Prop) → World → σ → Prop} (h : (bindId j id g fun g => k x g its nx d) = some r)
    (hB : ∀ f, f j = id → ∀ ρ I w w0 M F m', m' id = lkI id its → HR rs ρ I w w0 M F m' → ∀ v, A ρ I w v → B f x ρ I w v) : Mt rs g its nx d k r A B := by
  obtain ⟨g1, h1, h2, h3, h4⟩ := bindId_ok h
  exact ⟨x, g1, its, nx, d, h1, h2, fun _ h => h, GInj.bind h4, fun f hf => Stp.refl fun ρ I w w0 M F m' hd hr v hv => hB f (hf _ _ h3) ρ I w w0 M F m' (hd id (List.mem_append_right _ (lkS_ids h3))) hr v hv⟩
theorem Mt.pure {g : Sg} {nx : Nat} {d : List Nat} {τ σ : Type} {x : τ} {k : τ → Sg → Its S → Nat → List Nat → Option β} {A : Hd → (Nat → Prop) → World → σ → Prop} {B : (Nat → Nat) → τ → Hd → (Nat → Prop) → World → σ → Prop} (h : k x g its nx d = some r)
    (hB : ∀ f ρ I w v, A ρ I w v → B f x ρ I w v) : Mt rs g its nx d k r A B :=
  ⟨x, g, its, nx, d, h, GLe.refl _, fun _ h => h, fun h => h, fun f hf => Stp.refl fun ρ I w w0 M F m' hd hr v hv => hB f ρ I w v hv⟩
theorem roNil {c : TC} {xs : List (c.D S)} {v : Value} (h : Rel rs ρ I w (.ro c xs .nil) v) : Rel rs ρ I w (.nils : AV S) v := by
  obtain ⟨A, cap, h1, h2, h3, h4, h5⟩ := h
  have h4 : A = none := h4
  subst h4
  rw [h1, elems_none h3 rfl, h5 rfl]; rfl
theorem nzF_ok {z : Nz} {n : Nat} {k : Bool → Option β} (h : nzF z n k = some r) : ∃ b, k b = some r ∧ ∀ A : Option Addr, nzOk z A → (A = none → n = 0) → nzOk (.fl b) A := by
  cases z <;> simp only [nzF] at h
  · exact ⟨_, h, fun A h1 _ => by rw [show A = none from h1]; rfl⟩
  · refine ⟨_, h, fun A h1 _ => ?_⟩
    cases A
    · exact absurd rfl h1
    · rfl
  · split at h
    · cases h
    · rename_i hn
      refine ⟨_, h, fun A _ h2 => ?_⟩
      cases A
      · exact absurd (h2 rfl) hn
      · rfl
  · exact ⟨_, h, fun A h1 _ => h1⟩
theorem roFl {c : TC} {xs : List (c.D S)} {z z' : Nz} {v : Value} (hz : ∀ A : Option Addr, nzOk z A → (A = none → xs.length = 0) → nzOk z' A) (h : Rel rs ρ I w (.ro c xs z) v) : Rel rs ρ I w (.ro c xs z') v := by
  obtain ⟨A, cap, h1, h2, h3, h4⟩ := h
  exact ⟨A, cap, h1, h2, h3, hz A h4.1 (elems_none h3), h4.2⟩
mutual
theorem matchV_ok (ok : CxOK P cx rs) {its0 : List (Nat × ShI)} : ∀ (s : ShV) {v : AV S} {g : Sg} {its : Its S} {nx : Nat} {d : List Nat} {k : s.ty S → Sg → Its S → Nat → List Nat → Option β}, matchV cx its0 s v g its nx d k = some r →
    Mt rs g its nx d k r (fun ρ I w => Rel rs ρ I w v) (fun f x ρ I w => Rel rs ρ I w (mkV cx f s x)) := by
  intro s v g its nx d k h
  cases s
  case any => exact Mt.pure (by simpa [matchV] using h) fun _ _ _ _ _ _ => trivial
  case nilp => cases v <;> first | exact Mt.pure (by simpa [matchV] using h) fun _ _ _ _ _ h => h | simp [matchV] at h
  case nilf => cases v <;> first | exact Mt.pure (by simpa [matchV] using h) fun _ _ _ _ _ h => h | simp [matchV] at h
  case nils => cases v <;> first | exact Mt.pure (by simpa [matchV] using h) fun _ _ _ _ _ h => h | simp [matchV] at h
  case int i =>
    cases v
    case int i' x =>
      simp only [matchV] at h
      obtain ⟨rfl, h1⟩ := ite_none h
      exact Mt.pure h1 fun _ _ _ _ _ h => h
    all_goals simp [matchV] at h
  case bl =>
    cases v
    case bl b => exact Mt.pure (by simpa only [matchV] using h) fun _ _ _ _ _ h => h
    case pr p i => exact Mt.pure (by simpa only [matchV] using h) fun _ _ _ _ _ h => h
    all_goals simp [matchV] at h
  case str =>
    cases v
    case str b => exact Mt.pure (by simpa only [matchV] using h) fun _ _ _ _ _ h => h
    all_goals simp [matchV] at h
  case ro c =>
    simp only [matchV] at h
    obtain ⟨xs, z, its1, d', h1, h2⟩ := asRo_ok (rs := rs) (nx := nx) h
    exact ⟨_, _, _, _, _, h1, GLe.refl _, fun a ha => List.mem_append_right _ ha, fun h => h, fun f hf => h2.sub (fun a ha => List.mem_append_left _ (List.mem_append_left _ ha)) (fun _ _ _ _ h => h) fun _ _ _ _ h => roUnk (by cases z <;> rfl) h⟩
  case roz c z =>
    simp only [matchV] at h
    obtain ⟨xs, z', its1, d', h1, h2⟩ := asRo_ok (rs := rs) (nx := nx) h
    obtain ⟨hz, h3⟩ := bif_none h1
    exact ⟨_, _, _, _, _, h3, GLe.refl _, fun a ha => List.mem_append_right _ ha, fun h => h, fun f hf => h2.sub (fun a ha => List.mem_append_left _ (List.mem_append_left _ ha)) (fun _ _ _ _ h => h) fun _ _ _ _ h => roUnk hz h⟩
  case rof c =>
    simp only [matchV] at h
    obtain ⟨xs, z, its1, d', h1, h2⟩ := asRo_ok (rs := rs) (nx := nx) h
    obtain ⟨b, h3, h4⟩ := nzF_ok h1
    exact ⟨(b, xs), _, _, _, _, h3, GLe.refl _, fun a ha => List.mem_append_right _ ha, fun h => h, fun f hf => h2.sub (fun a ha => List.mem_append_left _ (List.mem_append_left _ ha)) (fun _ _ _ _ h => h) fun _ _ _ _ h => roFl h4 h⟩
  case intc i n =>
    cases v
    case int i' x =>
      simp only [matchV] at h
      obtain ⟨rfl, h1⟩ := ite_none h
      obtain ⟨rfl, h2⟩ := ite_none h1
      exact Mt.pure h2 fun _ _ _ _ _ h => h
    all_goals simp [matchV] at h
  case blc b =>
    cases v
    case bl b' =>
      simp only [matchV] at h
      obtain ⟨rfl, h1⟩ := ite_none h
      exact Mt.pure h1 fun _ _ _ _ _ h => h
    all_goals simp [matchV] at h
  case lits j n =>
    cases v
    case lits id n' =>
      simp only [matchV] at h
      obtain ⟨h1, h2⟩ := bif_none h
      have := Nat.eq_of_beq_eq_true h1
      subst this
      exact Mt.bind h2 fun f hf ρ I w w0 M F m' hm hr v hv => by simp only [mkV]; rw [hf]; exact hv
    all_goals simp [matchV] at h
  case yld j =>
    cases v
    case yld id =>
      simp only [matchV] at h
      exact Mt.bind h fun f hf ρ I w w0 M F m' hm hr v hv => by simp only [mkV]; rw [hf]; exact hv
    all_goals simp [matchV] at h
  case own j =>
    cases v
    case own id =>
      simp only [matchV] at h
      exact Mt.bind h fun f hf ρ I w w0 M F m' hm hr v hv => by simp only [mkV]; rw [hf]; exact hv
    case nils =>
      simp only [matchV] at h
      split at h
      · rename_i c t sz z e1 e2
        obtain ⟨h1, h2⟩ := bif_none h
        simp only [Bool.and_eq_true, Bool.not_eq_true'] at h1
        refine ⟨_, _, _, _, _, h2, ⟨fun x hx => by simp [idsG, hx], fun j' id' e' => ?_⟩, fun _ h => h, fun hg => List.nodup_cons.2 ⟨fun hm => (by rw [memN_iff.2 hm] at h1; exact absurd h1.2 (by simp)), hg⟩, fun f hf => ?_⟩
        · rw [lkS_cons]
          have : j ≠ j' := by rintro rfl; rw [e1] at e'; cases e'
          simp [this, e']
        · have e3 : f j = nx := hf j nx (by rw [lkS_cons]; simp)
          simp only [mkV]
          rw [e3]
          exact pushNil_ok ok (by rw [← shN_rp ok]; exact Nat.eq_of_beq_eq_true h1.1)
      · cases h
    case ro c' xs' z' =>
      cases z'
      case nil =>
       simp only [matchV] at h
       split at h
       · rename_i c t sz z e1 e2
         obtain ⟨h1, h2⟩ := bif_none h
         simp only [Bool.and_eq_true, Bool.not_eq_true'] at h1
         refine ⟨_, _, _, _, _, h2, ⟨fun x hx => by simp [idsG, hx], fun j' id' e' => ?_⟩, fun _ h => h, fun hg => List.nodup_cons.2 ⟨fun hm => (by rw [memN_iff.2 hm] at h1; exact absurd h1.2 (by simp)), hg⟩, fun f hf => ?_⟩
         · rw [lkS_cons]
           have : j ≠ j' := by rintro rfl; rw [e1] at e'; cases e'
           simp [this, e']
         · have e3 : f j = nx := hf j nx (by rw [lkS_cons]; simp)
           simp only [mkV]
           rw [e3]
           exact (pushNil_ok ok (by rw [← shN_rp ok]; exact Nat.eq_of_beq_eq_true h1.1)).sub (fun _ h => h) (fun ρ I w v hv => roNil hv) (fun _ _ _ _ h => h)
       · cases h
      all_goals simp [matchV] at h
    all_goals simp [matchV] at h
  case part j =>
    cases v
    case nils =>
      simp only [matchV] at h
      split at h
      · rename_i c t sz z e1 e2
        obtain ⟨h1, h2⟩ := bif_none h
        simp only [Bool.and_eq_true, Bool.not_eq_true'] at h1
        refine ⟨((0 : Int), (0 : Int)), _, _, _, _, h2, ⟨fun x hx => by simp [idsG, hx], fun j' id' e' => ?_⟩, fun _ h => h, fun hg => List.nodup_cons.2 ⟨fun hm => (by rw [memN_iff.2 hm] at h1; exact absurd h1.2 (by simp)), hg⟩, fun f hf => ?_⟩
        · rw [lkS_cons]
          have : j ≠ j' := by rintro rfl; rw [e1] at e'; cases e'
          simp [this, e']
        · have e3 : f j = nx := hf j nx (by rw [lkS_cons]; simp)
          simp only [mkV]
          rw [e3]
          exact pushNilP_ok ok (by rw [← shN_rp ok]; exact Nat.eq_of_beq_eq_true h1.1)
      · cases h
    case part id lo hi =>
      simp only [matchV] at h
      exact Mt.bind (x := (lo, hi)) h fun f hf ρ I w w0 M F m' hm hr v hv => by simp only [mkV]; rw [hf]; exact hv
    case own id =>
      simp only [matchV] at h
      split at h
      · rename_i e
        exact Mt.bind (x := (0, _)) h fun f hf ρ I w w0 M F m' hm hr v hv => by simp only [mkV]; rw [hf]; exact PartR.own hv hr (hm.trans e)
      · rename_i e
        exact Mt.bind (x := (0, _)) h fun f hf ρ I w w0 M F m' hm hr v hv => by simp only [mkV]; rw [hf]; exact PartR.arr hv hr (hm.trans e)
      · cases h
    all_goals simp [matchV] at h
  case ptr j off =>
    cases v
    case ptr id off' =>
      simp only [matchV] at h
      obtain ⟨h1, h2⟩ := bif_none h
      have := Nat.eq_of_beq_eq_true h1
      subst this
      exact Mt.bind h2 fun f hf ρ I w w0 M F m' hm hr v hv => by simp only [mkV]; rw [hf]; exact hv
    all_goals simp [matchV] at h
  case aptr j =>
    cases v
    case aptr id =>
      simp only [matchV] at h
      exact Mt.bind h fun f hf ρ I w w0 M F m' hm hr v hv => by simp only [mkV]; rw [hf]; exact hv
    all_goals simp [matchV] at h
  case stc n =>
    cases v
    case agg vs =>
      simp only [matchV] at h
      obtain ⟨y, its1, d', h1, h2⟩ := ofS_ok (rs := rs) (nx := nx) h
      refine ⟨_, _, _, _, _, h1, GLe.refl _, fun a ha => List.mem_append_right _ ha, fun h => h, fun f hf => ?_⟩
      simp only [mkV]
      rw [ok.to_of]
      exact Stp.agg (h2.sub (fun a ha => List.mem_append_left _ (List.mem_append_left _ ha)) (fun _ _ _ _ h => h) fun _ _ _ _ h => h)
    all_goals simp [matchV] at h
  case arr i N =>
    cases v
    case arr i' N' xs =>
      simp only [matchV] at h
      obtain ⟨rfl, h1⟩ := ite_none h
      obtain ⟨h1, h2⟩ := bif_none h1
      have := Nat.eq_of_beq_eq_true h1
      subst this
      exact Mt.pure h2 fun _ _ _ _ _ h => h
    all_goals simp [matchV] at h
  case agg l =>
    cases v
    case agg vs =>
      simp only [matchV] at h
      obtain ⟨x, g1, its1, nx1, d1, h1, h2, h3, h4, h5⟩ := matchL_ok ok l h
      exact ⟨x, g1, its1, nx1, d1, h1, h2, h3, h4, fun f hf => by simp only [mkV]; exact Stp.agg (h5 f hf)⟩
    all_goals simp [matchV] at h
  case tup l =>
    cases v
    case tup vs =>
      simp only [matchV] at h
      obtain ⟨x, g1, its1, nx1, d1, h1, h2, h3, h4, h5⟩ := matchL_ok ok l h
      exact ⟨x, g1, its1, nx1, d1, h1, h2, h3, h4, fun f hf => by simp only [mkV]; exact Stp.tup (h5 f hf)⟩
    all_goals simp [matchV] at h
  case fn f a b =>
    cases v
    case fn f' a' b' =>
      simp only [matchV] at h
      obtain ⟨e, h⟩ := bif_none h
      have := Nat.eq_of_beq_eq_true e
      subst this
      obtain ⟨x, g1, its1, nx1, d1, h1, h2, h3, h4, h5⟩ := matchL_ok ok a h
      obtain ⟨y, g2, its2, nx2, d2, k1, k2, k3, k4, k5⟩ := matchL_ok ok b h1
      refine ⟨(x, y), g2, its2, nx2, d2, k1, h2.trans k2, fun a ha => k3 a (h3 a ha), fun h => k4 (h4 h), fun f hf => ?_⟩
      simp only [mkV]
      refine Stp.fn (Stp.two (h5 f (Con.sub k2 hf)) (k5 f hf) (fun a ha => ?_) (fun _ _ _ _ _ _ h1 h2 h3 => RelL.mono h1 h2 _ _ h3) (fun _ _ _ _ _ _ h1 h2 h3 => RelL.mono h1 h2 _ _ h3))
      rcases List.mem_append.1 ha with ha | ha
      · exact List.mem_append_left _ (k3 a ha)
      · exact List.mem_append_right _ (k2.1 a ha)
    all_goals simp [matchV] at h
theorem matchL_ok (ok : CxOK P cx rs) {its0 : List (Nat × ShI)} : ∀ (l : List ShV) {vs : List (AV S)} {g : Sg} {its : Its S} {nx : Nat} {d : List Nat} {k : ShV.tyL S l → Sg → Its S → Nat → List Nat → Option β}, matchL cx its0 l vs g its nx d k = some r →
    Mt rs g its nx d k r (fun ρ I w => RelL rs ρ I w vs) (fun f x ρ I w => RelL rs ρ I w (mkL cx f l x)) := by
  intro l vs g its nx d k h
  cases l with
  | nil =>
    cases vs with
    | nil => exact Mt.pure (by simpa only [matchL] using h) fun _ _ _ _ _ h => h
    | cons v vs => simp [matchL] at h
  | cons s l =>
    cases vs with
    | nil => simp [matchL] at h
    | cons v vs =>
      simp only [matchL] at h
      obtain ⟨x, g1, its1, nx1, d1, h1, h2, h3, h4, h5⟩ := matchV_ok ok s h
      obtain ⟨y, g2, its2, nx2, d2, k1, k2, k3, k4, k5⟩ := matchL_ok ok l h1
      refine ⟨consL x y, g2, its2, nx2, d2, k1, h2.trans k2, fun a ha => k3 a (h3 a ha), fun h => k4 (h4 h), fun f hf => ?_⟩
      simp only [mkL_cons]
      refine Stp.cons (h5 f (Con.sub k2 hf)) (k5 f hf) (fun a ha => ?_)
      rcases List.mem_append.1 ha with ha | ha
      · exact List.mem_append_left _ (k3 a ha)
      · exact List.mem_append_right _ (k2.1 a ha)
end
end
end Go.VX

/- VX, part l: a state is put into a shape. -/
namespace Go.VX
noncomputable section
open Go Go.SX Go.RowKit
set_option linter.unusedVariables false
variable {S : Nat → Type} {rs : RS S} {ρ ρ' : Hd} {I I' : Nat → Prop} {w w' w0 : World} {M : Nat → Prop} {F : List It} {m m1 m2 m' : Nat → Option (AI S)} {cx : Cx S} {P : Program} {β : Type} {r : β} {env : Env S} {its its1 : Its S} {E : List Value}

/-- What is known of a thing of one's own. -/
def IRh (rs : RS S) (ρ : Hd) (I : Nat → Prop) (w : World) (id : Nat) (it : AI S) : Prop := (∃ p, ItR rs ρ I w id it p ∧ p.holds w) ∨ RoR rs ρ I w id it
theorem IRh.mono {id : Nat} {it : AI S} (hr : Le ρ ρ') (hk : Kp I w I' w) (h : IRh rs ρ I w id it) : IRh rs ρ' I' w id it := by
  rcases h with ⟨p, h1, h2⟩ | h
  · exact .inl ⟨p, ItR.mono hr hk h1, h2⟩
  · exact .inr (RoR.mono hr hk h)
theorem HR.ir {id : Nat} {it : AI S} (h : HR rs ρ I w w0 M F m) (hm : m id = some it) : IRh rs ρ I w id it := by
  rcases h.focus hm with ⟨_, L, p, _, _, _, _, h1, s⟩ | ⟨_, _, _, _, _, _, h1, _⟩
  · exact .inl ⟨p, h1, s.here _ (List.mem_cons_self ..)⟩
  · exact .inr h1
theorem nz_le {z z' : Nz} {A : Option Addr} (hz : nzLe z z' = true) (h : nzOk z A) : nzOk z' A := by
  cases z <;> cases z' <;> first | exact h | trivial | cases hz
theorem matchI_ok (ok : CxOK P cx rs) {its0 : List (Nat × ShI)} {s : ShI} {it : AI S} {id : Nat} {g : Sg} {nx : Nat} {d : List Nat} {k : s.ty S → Sg → Its S → Nat → List Nat → Option β} (hit : lkI id its = some it) (hid : id ∈ idsG g) (h : matchI cx its0 s it g its nx d k = some r) :
    Mt rs g its nx d k r (fun _ _ _ (_ : Unit) => True) (fun f x ρ I w _ => IRh rs ρ I w id (mkI cx f s x)) := by
  cases s
  case blk t l =>
    cases it
    case blk t' cs =>
      simp only [matchI] at h
      obtain ⟨h1, h2⟩ := bif_none h
      have := Nat.eq_of_beq_eq_true h1
      subst this
      obtain ⟨x, g1, its1, nx1, d1, k1, k2, k3, k4, k5⟩ := matchL_ok ok l h2
      refine ⟨x, g1, its1, nx1, d1, k1, k2, k3, k4, fun f hf => ?_⟩
      have T := k5 f hf
      refine ⟨T.le, T.mon, T.fr, fun {ρ I w w0 M F m'} hd q1 q2 hr => ?_⟩
      obtain ⟨ρ', I', p1, p2, p3, p4, p5⟩ := T.go hd q1 q2 hr
      refine ⟨ρ', I', p1, p2, p3, p4, fun _ _ => ?_⟩
      rcases hr.ir ((hd id (List.mem_append_right _ (k2.1 _ hid))).trans hit) with ⟨p, ⟨b, vs, sz, e1, rfl, e3, e4⟩, e5⟩ | e
      · exact .inl ⟨_, ⟨b, vs, sz, p1 _ _ e1, rfl, p5 vs e3, e4⟩, e5⟩
      · exact e.elim
    all_goals simp [matchI] at h
  case sl c t sz z =>
    cases it
    case sl c' t' sz' xs z' =>
      simp only [matchI] at h
      obtain ⟨h1, h2⟩ := bif_none h
      simp only [Bool.and_eq_true] at h1
      have e1 := Nat.eq_of_beq_eq_true h1.1.1
      have e2 := Nat.eq_of_beq_eq_true h1.1.2
      subst e1; subst e2
      split at h2
      · rename_i e
        subst e
        refine ⟨_, _, _, _, _, h2, GLe.refl _, fun _ h => h, fun h => h, fun f hf => Stp.refl fun ρ I w w0 M F m' hd hr _ _ => ?_⟩
        rcases hr.ir ((hd id (List.mem_append_right _ hid)).trans hit) with ⟨p, ⟨A, cap, cl, e1, e2, e3, e4, e5⟩, e6⟩ | e
        · exact .inl ⟨p, ⟨A, cap, cl, e1, e2, e3, e4, nz_le h1.2 e5⟩, e6⟩
        · exact e.elim
      · cases h2
    all_goals simp [matchI] at h
  case ro c z =>
    cases it
    case ro c' xs z' =>
      simp only [matchI] at h
      obtain ⟨h1, h2⟩ := bif_none h
      split at h2
      · rename_i e
        subst e
        refine ⟨_, _, _, _, _, h2, GLe.refl _, fun _ h => h, fun h => h, fun f hf => Stp.refl fun ρ I w w0 M F m' hd hr _ _ => ?_⟩
        rcases hr.ir ((hd id (List.mem_append_right _ hid)).trans hit) with ⟨p, e, _⟩ | ⟨A, cap, sz, e1, e2, e3, e4, e5, e6⟩
        · exact e.elim
        · exact .inr ⟨A, cap, sz, e1, e2, e3, e4, nz_le h1 e5, e6⟩
      · cases h2
    all_goals simp [matchI] at h
  case arr i t N =>
    cases it
    case arr i' t' N' xs =>
      simp only [matchI] at h
      obtain ⟨h1, h2⟩ := bif_none h
      simp only [Bool.and_eq_true] at h1
      have e1 := Nat.eq_of_beq_eq_true h1.1
      have e2 := Nat.eq_of_beq_eq_true h1.2
      subst e1; subst e2
      obtain ⟨rfl, h3⟩ := ite_none h2
      exact ⟨_, _, _, _, _, h3, GLe.refl _, fun _ h => h, fun h => h, fun f hf => Stp.refl fun ρ I w w0 M F m' hd hr _ _ => hr.ir ((hd id (List.mem_append_right _ hid)).trans hit)⟩
    all_goals simp [matchI] at h
/-- What is known of all of them. -/
def BIs (rs : RS S) (cx : Cx S) (f : Nat → Nat) : (l : List (Nat × ShI)) → tyI S l → Hd → (Nat → Prop) → World → Prop
  | [], _, _, _, _ => True
  | s :: l, y, ρ, I, w => IRh rs ρ I w (f s.1) (mkI cx f s.2 y.hd) ∧ BIs rs cx f l y.tl ρ I w
theorem BIs.mono {f : Nat → Nat} (hr : Le ρ ρ') (hk : Kp I w I' w) : ∀ {l : List (Nat × ShI)} {y : tyI S l}, BIs rs cx f l y ρ I w → BIs rs cx f l y ρ' I' w
  | [], _, _ => trivial
  | s :: l, y, ⟨h1, h2⟩ => ⟨IRh.mono hr hk h1, BIs.mono hr hk h2⟩
/-- All of these were matched with what is there. -/
def Bound (g : Sg) : List (Nat × ShI) → Prop
  | [] => True
  | s :: l => (∃ id, lkS s.1 g = some id) ∧ Bound g l
theorem Bound.sub {g g1 : Sg} (h : GLe g g1) : ∀ {l : List (Nat × ShI)}, Bound g l → Bound g1 l
  | [], _ => trivial
  | s :: l, ⟨⟨id, e⟩, h2⟩ => ⟨⟨id, h.2 _ _ e⟩, Bound.sub h h2⟩
theorem matchIs_ok (ok : CxOK P cx rs) {its0 : List (Nat × ShI)} : ∀ (l : List (Nat × ShI)) {g : Sg} {its : Its S} {nx : Nat} {d : List Nat} {k : tyI S l → Sg → Its S → Nat → List Nat → Option β}, matchIs cx its0 l g its nx d k = some r →
    Mt rs g its nx d k r (fun _ _ _ (_ : Unit) => True) (fun f y ρ I w _ => BIs rs cx f l y ρ I w) := by
  intro l
  induction l with
  | nil => intro g its nx d k h; exact Mt.pure (by simpa only [matchIs] using h) fun _ _ _ _ _ _ => trivial
  | cons s l ih =>
    intro g its nx d k h
    simp only [matchIs] at h
    split at h
    · rename_i id e1
      split at h
      · rename_i it e2
        obtain ⟨x, g1, its1, nx1, d1, h1, h2, h3, h4, h5⟩ := matchI_ok ok e2 (lkS_ids e1) h
        obtain ⟨y, g2, its2, nx2, d2, k1, k2, k3, k4, k5⟩ := ih h1
        refine ⟨Tup.cons x y, g2, its2, nx2, d2, k1, h2.trans k2, fun a ha => k3 a (h3 a ha), fun h => k4 (h4 h), fun f hf => ?_⟩
        refine Stp.trans (h5 f (Con.sub k2 hf)) (k5 f hf) (fun a ha => ?_) (fun _ _ _ _ _ _ _ _ _ _ => trivial) fun ρ I w ρ1 I1 ρ' I' v a1 a2 a3 a4 _ b1 b2 => ?_
        · rcases List.mem_append.1 ha with ha | ha
          · exact List.mem_append_left _ (k3 a ha)
          · exact List.mem_append_right _ (k2.1 a ha)
        · have e3 : f s.1 = id := hf _ _ (k2.2 _ _ (h2.2 _ _ e1))
          refine ⟨?_, ?_⟩
          · rw [hd_cons, e3]; exact IRh.mono a3 a4 b1
          · rw [tl_cons]; exact b2
      · cases h
    · cases h
/-- Slots, told. -/
def BE (rs : RS S) (cx : Cx S) (f : Nat → Nat) : (l : List (Nat × ShV)) → tyE S l → Hd → (Nat → Prop) → World → List Value → Prop
  | [], _, _, I, w, _ => GLF rs I w
  | s :: l, y, ρ, I, w, E => Rel rs ρ I w (mkV cx f s.2 y.hd) (E.getD s.1 undef) ∧ BE rs cx f l y.tl ρ I w E
theorem matchE_ok (ok : CxOK P cx rs) {its0 : List (Nat × ShI)} {env : Env S} : ∀ (l : List (Nat × ShV)) {g : Sg} {its : Its S} {nx : Nat} {d : List Nat} {k : tyE S l → Sg → Its S → Nat → List Nat → Option β}, matchE cx its0 env l g its nx d k = some r →
    Mt rs g its nx d k r (fun ρ I w (E : List Value) => EnvR rs ρ I w env E) (fun f y ρ I w E => BE rs cx f l y ρ I w E) := by
  intro l
  induction l with
  | nil => intro g its nx d k h; exact Mt.pure (by simpa only [matchE] using h) fun _ _ _ _ _ hE => EnvR.gl hE
  | cons s l ih =>
    intro g its nx d k h
    simp only [matchE] at h
    obtain ⟨x, g1, its1, nx1, d1, h1, h2, h3, h4, h5⟩ := matchV_ok ok s.2 h
    obtain ⟨y, g2, its2, nx2, d2, k1, k2, k3, k4, k5⟩ := ih h1
    refine ⟨Tup.cons x y, g2, its2, nx2, d2, k1, h2.trans k2, fun a ha => k3 a (h3 a ha), fun h => k4 (h4 h), fun f hf => ?_⟩
    have T1 : Stp rs (fun j => lkI j its) (fun j => lkI j its1) nx nx1 (d1 ++ idsG g1) (fun ρ I w (E : List Value) => EnvR rs ρ I w env E) (fun ρ I w E => Rel rs ρ I w (mkV cx f s.2 x) (E.getD s.1 undef)) := by
      have T := h5 f (Con.sub k2 hf)
      refine ⟨T.le, T.mon, T.fr, fun {ρ I w w0 M F m'} hd q1 q2 hr => ?_⟩
      obtain ⟨ρ', I', p1, p2, p3, p4, p5⟩ := T.go hd q1 q2 hr
      exact ⟨ρ', I', p1, p2, p3, p4, fun E hE => p5 _ (hE s.1)⟩
    refine Stp.trans T1 (k5 f hf) (fun a ha => ?_) (fun _ _ _ _ _ _ b1 b2 hE _ => EnvR.mono b1 b2 hE) fun ρ I w ρ1 I1 ρ' I' v a1 a2 a3 a4 _ b1 b2 => ?_
    · rcases List.mem_append.1 ha with ha | ha
      · exact List.mem_append_left _ (k3 a ha)
      · exact List.mem_append_right _ (k2.1 a ha)
    · refine ⟨?_, ?_⟩
      · rw [hd_cons]; exact Rel.mono a3 a4 _ _ b1
      · rw [tl_cons]; exact b2

/-! ### Other numbers -/
theorem mkS_ren {ρ ρ' : Hd} : ∀ {l : List ShV} {x : ShV.tyL S l} {cs : List Value}, RelL rs ρ I w (mkS l x) cs → RelL rs ρ' I w (mkS l x) cs := mkS_free
mutual
theorem mkV_ren {f : Nat → Nat} : ∀ (s : ShV) {x : s.ty S} {v : Value}, Rel rs ρ I w (mkV cx f s x) v → Rel rs (fun j => ρ (f j)) I w (mkV cx (fun j => j) s x) v := by
  intro s x v h
  cases s
  case stc n =>
    simp only [mkV] at h ⊢
    obtain ⟨vs, e, h⟩ := h
    exact ⟨vs, e, mkS_free h⟩
  case agg l =>
    simp only [mkV] at h ⊢
    obtain ⟨vs, e, h⟩ := h
    exact ⟨vs, e, mkL_ren l h⟩
  case tup l =>
    simp only [mkV] at h ⊢
    obtain ⟨vs, e, h⟩ := h
    exact ⟨vs, e, mkL_ren l h⟩
  case fn f' a b =>
    simp only [mkV] at h ⊢
    obtain ⟨vs, us, e, h1, h2⟩ := h
    exact ⟨vs, us, e, mkL_ren a h1, mkL_ren b h2⟩
  all_goals
    simp only [mkV] at h ⊢
    exact h
theorem mkL_ren {f : Nat → Nat} : ∀ (l : List ShV) {x : ShV.tyL S l} {vs : List Value}, RelL rs ρ I w (mkL cx f l x) vs → RelL rs (fun j => ρ (f j)) I w (mkL cx (fun j => j) l x) vs := by
  intro l x vs h
  cases l with
  | nil => exact h
  | cons s l =>
    simp only [mkL] at h ⊢
    obtain ⟨v, q, e, h1, h2⟩ := h
    exact ⟨v, q, e, mkV_ren s h1, mkL_ren l h2⟩
end
theorem mkI_ren {f : Nat → Nat} {j : Nat} : ∀ (s : ShI) {x : s.ty S} {p : It}, ItR rs ρ I w (f j) (mkI cx f s x) p → ItR rs (fun j => ρ (f j)) I w j (mkI cx (fun j => j) s x) p := by
  intro s x p h
  cases s
  case blk t l =>
    simp only [mkI] at h ⊢
    obtain ⟨b, vs, sz, h1, h2, h3, h4⟩ := h
    exact ⟨b, vs, sz, h1, h2, mkL_ren l h3, h4⟩
  all_goals exact h
theorem mkI_ro {f : Nat → Nat} {j : Nat} : ∀ (s : ShI) {x : s.ty S}, RoR rs ρ I w (f j) (mkI cx f s x) → RoR rs (fun j => ρ (f j)) I w j (mkI cx (fun j => j) s x) := by
  intro s x h
  cases s
  case blk t l => exact h.elim
  all_goals exact h
theorem BE.envR {f : Nat → Nat} {E : List Value} : ∀ {l : List (Nat × ShV)} {y : tyE S l}, BE rs cx f l y ρ I w E → EnvR rs (fun j => ρ (f j)) I w (mkE cx (fun j => j) l y) E
  | [], _, h => ⟨fun t => by simp [mkE, lkE, Rel], h⟩
  | s :: l, y, ⟨h1, h2⟩ => ⟨fun t => by
    simp only [mkE, lkE_cons]
    split
    · rename_i e; subst e; exact mkV_ren s.2 h1
    · exact BE.envR h2 t, (BE.envR h2).gl⟩

/-! ### What is one's own, parted -/
theorem HR.split : ∀ (ps : Its S) {F : List It} {m : Nat → Option (AI S)}, (keysI ps).Nodup → (∀ q ∈ ps, m q.1 = some q.2) → HR rs ρ I w w0 M F m →
    ∃ L1 itsR LR, ItsR rs ρ I w ps L1 ∧ (keysI itsR).Nodup ∧ (∀ j, lkI j itsR = if j ∈ keysI ps then none else m j) ∧ ItsR rs ρ I w itsR LR ∧ St w0 M I (L1 ++ (LR ++ F)) w
  | [], F, m, _, _, ⟨its, L, h1, h2, h3, h4⟩ => ⟨[], its, L, rfl, h1, fun j => by simpa [keysI] using h2 j, h3, by simpa using h4⟩
  | q :: ps, F, m, hn, hm, h => by
    simp only [keysI, List.nodup_cons] at hn
    have hm1 := hm q (List.mem_cons_self ..)
    have hm2 : ∀ q' ∈ ps, upd m q.1 none q'.1 = some q'.2 := fun q' hq' => by
      have : q'.1 ≠ q.1 := fun e => hn.1 (e ▸ (by
        clear hn hm hm1
        induction ps with
        | nil => cases hq'
        | cons a ps ih => rcases List.mem_cons.1 hq' with rfl | h
                          · simp [keysI]
                          · simp [keysI, ih h]))
      simp only [upd, if_neg this]
      exact hm q' (List.mem_cons_of_mem _ hq')
    rcases h.focus hm1 with ⟨its, L, p, k1, k2, k3, k4, k5, k6⟩ | ⟨its, L, k1, k2, k3, k4, k5, k6⟩
    · obtain ⟨L1, itsR, LR, e1, e2, e3, e4, e5⟩ := HR.split ps (F := p :: F) hn.2 hm2 ⟨its, L, k2, k3, k4, stPerm k6 (by
        exact (List.perm_middle (a := p) (l₁ := L) (l₂ := F)).symm)⟩
      refine ⟨p :: L1, itsR, LR, .inl ⟨p, L1, rfl, k5, e1⟩, e2, fun j => ?_, e4, stPerm e5 ?_⟩
      · rw [e3]
        simp only [keysI, List.mem_cons, upd]
        by_cases a : j = q.1 <;> by_cases b : j ∈ keysI ps <;> simp [a, b]
      · have a1 : (L1 ++ (LR ++ p :: F)).Perm (L1 ++ (p :: (LR ++ F))) := List.Perm.append_left L1 List.perm_middle
        exact a1.trans List.perm_middle
    · obtain ⟨L1, itsR, LR, e1, e2, e3, e4, e5⟩ := HR.split ps hn.2 hm2 ⟨its, L, k2, k3, k4, k6⟩
      refine ⟨L1, itsR, LR, .inr ⟨k5, e1⟩, e2, fun j => ?_, e4, e5⟩
      rw [e3]
      simp only [keysI, List.mem_cons, upd]
      by_cases a : j = q.1 <;> by_cases b : j ∈ keysI ps <;> simp [a, b]
end
end Go.VX

/- VX, part m: ways that meet: a state in its shape. -/
namespace Go.VX
noncomputable section
open Go Go.SX Go.RowKit
set_option linter.unusedVariables false
variable {S : Nat → Type} {rs : RS S} {ρ ρ' : Hd} {I I' : Nat → Prop} {w w' w0 : World} {M : Nat → Prop} {F : List It} {m m1 m2 m' : Nat → Option (AI S)} {cx : Cx S} {P : Program} {β : Type} {r : β} {env : Env S} {its its1 : Its S} {E : List Value}

/-- A state, told. -/
structure SR (rs : RS S) (ρ : Hd) (I : Nat → Prop) (w w0 : World) (M : Nat → Prop) (F : List It) (env : Env S) (its : Its S) (nx : Nat) (E : List Value) : Prop where
  hE : EnvR rs ρ I w env E
  hI : HR rs ρ I w w0 M F (fun j => lkI j its)
  hN : ∀ j, nx ≤ j → ρ j = none ∧ lkI j its = none
theorem row_uniq {A : Option Addr} {c e e' size n : Nat} {xs xs' : List Value} (h : (It.sl (.slice A n c) e size n xs).holds w) (h' : (It.sl (.slice A n c) e' size n xs').holds w) : xs = xs' ∧ (A ≠ none → e = e') := by
  obtain ⟨h1, ⟨h2, h3⟩ | ⟨g, cap, cur, h2, _, h3, _, _, _, h4⟩⟩ := h
  · obtain ⟨k1, k2⟩ := h'
    subst h3
    simp only [Value.slice.injEq] at h2
    refine ⟨?_, fun ha => absurd h2.1 ha⟩
    have a1 : xs = [] := List.eq_nil_of_length_eq_zero (by simpa using h1)
    have a2 : xs' = [] := List.eq_nil_of_length_eq_zero (by simpa using k1)
    rw [a1, a2]
  · obtain ⟨k1, ⟨k2, k3⟩ | ⟨g', cap', cur', k2, _, k3, _, _, _, k4⟩⟩ := h'
    · rw [h2] at k2; cases k2
    · rw [h2] at k2; cases k2
      rw [h3] at k3; cases k3
      exact ⟨h4.symm.trans k4, fun _ => rfl⟩
def psA (f : Nat → Nat) (its : Its S) : List (Nat × ShI) → Its S
  | [] => []
  | s :: l => match lkI (f s.1) its with
    | some it => (f s.1, it) :: psA f its l
    | none => psA f its l
theorem psA_mem {f : Nat → Nat} {its : Its S} : ∀ {l : List (Nat × ShI)} {q : Nat × AI S}, q ∈ psA f its l → lkI q.1 its = some q.2 ∧ ∃ s ∈ l, q.1 = f s.1
  | [], _, h => by simp [psA] at h
  | s :: l, q, h => by
    simp only [psA] at h
    split at h
    · rename_i it e
      rcases List.mem_cons.1 h with rfl | h
      · exact ⟨e, s, List.mem_cons_self .., rfl⟩
      · obtain ⟨h1, s', h2, h3⟩ := psA_mem h
        exact ⟨h1, s', List.mem_cons_of_mem _ h2, h3⟩
    · obtain ⟨h1, s', h2, h3⟩ := psA_mem h
      exact ⟨h1, s', List.mem_cons_of_mem _ h2, h3⟩
theorem keysI_mem {ps : Its S} {id : Nat} : id ∈ keysI ps ↔ ∃ it, (id, it) ∈ ps := by
  induction ps with
  | nil => simp [keysI]
  | cons p ps ih =>
    simp only [keysI, List.mem_cons, ih]
    constructor
    · rintro (rfl | ⟨it, h⟩)
      · exact ⟨p.2, .inl rfl⟩
      · exact ⟨it, .inr h⟩
    · rintro ⟨it, rfl | h⟩
      · exact .inl rfl
      · exact .inr ⟨it, h⟩
theorem GInj.inj : ∀ {g : Sg} {j j' id : Nat}, GInj g → lkS j g = some id → lkS j' g = some id → j = j'
  | [], _, _, _, _, h, _ => by simp [lkS] at h
  | p :: g, j, j', id, hg, h, h' => by
    rw [lkS_cons] at h h'
    have hn := List.nodup_cons.1 hg
    split at h
    · rename_i e1
      split at h'
      · rename_i e2; rw [← e1, ← e2]
      · cases h; exact absurd (lkS_ids h') hn.1
    · split at h'
      · cases h'; exact absurd (lkS_ids h) hn.1
      · exact GInj.inj hn.2 h h'
theorem kinds_cons {g : Sg} {its : Its S} {s : Nat × ShI} {l : List (Nat × ShI)} (h : kindsA g its (s :: l) = true) : ∃ id it, lkS s.1 g = some id ∧ lkI id its = some it ∧ kindOk s.2 it = true ∧ kindsA g its l = true := by
  simp only [kindsA] at h
  split at h
  · rename_i id e1
    split at h
    · rename_i it e2
      simp only [Bool.and_eq_true] at h
      exact ⟨id, it, e1, e2, h.1, h.2⟩
    · cases h
  · cases h
theorem kinds_bound {g : Sg} {its : Its S} : ∀ {l : List (Nat × ShI)}, kindsA g its l = true → ∀ s ∈ l, ∃ id it, lkS s.1 g = some id ∧ lkI id its = some it
  | [], _, _, h => by cases h
  | s :: l, h, s', hs => by
    obtain ⟨id, it, e1, e2, _, e3⟩ := kinds_cons h
    rcases List.mem_cons.1 hs with rfl | hs
    · exact ⟨id, it, e1, e2⟩
    · exact kinds_bound e3 s' hs
theorem psA_nodup {f : Nat → Nat} {g : Sg} {its : Its S} (hf : Con f g) (hg : GInj g) : ∀ {l : List (Nat × ShI)}, kindsA g its l = true → nodupI l = true → (keysI (psA f its l)).Nodup
  | [], _, _ => by simp [psA, keysI]
  | s :: l, hk, hn => by
    simp only [nodupI, Bool.and_eq_true, Bool.not_eq_true'] at hn
    obtain ⟨id, it, e1, e2, _, hk'⟩ := kinds_cons hk
    simp only [psA]
    rw [hf _ _ e1, e2]
    simp only [keysI]
    refine List.nodup_cons.2 ⟨fun hm => ?_, psA_nodup hf hg hk' hn.2⟩
    obtain ⟨it', hm⟩ := keysI_mem.1 hm
    obtain ⟨_, s', h1, h2⟩ := psA_mem hm
    obtain ⟨id', _, h3, _⟩ := kinds_bound hk' s' h1
    rw [hf _ _ h3] at h2
    simp only at h2
    subst h2
    have := GInj.inj hg e1 h3
    have : memN s.1 (l.map (·.1)) = true := memN_iff.2 (List.mem_map.2 ⟨s', h1, this.symm⟩)
    rw [this] at hn; exact absurd hn.1 (by simp)
theorem kind_own {id : Nat} {sh : ShI} {x : sh.ty S} {it : AI S} {f : Nat → Nat} {p : It} (hk : kindOk sh it = true) (hb : IRh rs ρ I w id (mkI cx f sh x)) (h : ItR rs ρ I w id it p) (hp : p.holds w) : ItR rs ρ I w id (mkI cx f sh x) p := by
  cases sh
  case blk t l =>
    cases it <;> simp [kindOk] at hk
    obtain ⟨b, vs, sz, e1, rfl, e3, e4⟩ := h
    rcases hb with ⟨p2, ⟨b', vs', sz', k1, rfl, k3, k4⟩, k5⟩ | k
    · rw [e1] at k1; cases k1
      have : w.heap[b]? = _ := hp
      rw [show w.heap[b]? = some (.cells vs'.toArray t (0, 0)) from k5] at this
      simp only [Option.some.injEq, Obj.cells.injEq] at this
      obtain ⟨a1, a2, _⟩ := this
      have a1 : vs' = vs := by simpa using a1
      subst a1; subst a2
      exact ⟨b, vs', sz, e1, rfl, k3, k4⟩
    · exact k.elim
  case sl c t sz z =>
    cases it <;> simp [kindOk] at hk
    obtain ⟨hk1, hk2⟩ := hk
    obtain ⟨A, cap, cl, e1, rfl, e3, e4, e5⟩ := h
    rcases hb with ⟨p2, ⟨A', cap', cl', k1, rfl, k3, k4, k5⟩, k6⟩ | k
    · rw [e1] at k1
      simp only [Option.some.injEq, Prod.mk.injEq, Value.slice.injEq] at k1
      obtain ⟨⟨a1, a2, a3⟩, a4⟩ := k1
      subst a1; subst a3; subst hk1; subst hk2
      rw [← a2] at k6
      obtain ⟨b1, _⟩ := row_uniq hp k6
      subst b1
      refine ⟨A, cap, cl, by rw [← a2]; exact e1, by rw [a2], k3, k4, k5⟩
    · exact k.elim
  case ro c z => cases it <;> simp [kindOk] at hk; exact h.elim
  case arr i t N =>
    cases it <;> simp [kindOk] at hk
    obtain ⟨b, e1, rfl, e3⟩ := h
    rcases hb with ⟨p2, ⟨b', k1, rfl, k3⟩, k4⟩ | k
    · rw [e1] at k1
      simp only [Option.some.injEq, Prod.mk.injEq, Value.slice.injEq, Addr.mk.injEq, and_true, and_self] at k1
      obtain ⟨a1, a2⟩ := k1
      subst a1; subst a2
      obtain ⟨b1, b2⟩ := row_uniq hp k4
      have b2 := b2 (by simp)
      subst b2
      rw [b1]
      exact ⟨b, e1, rfl, k3⟩
    · exact k.elim
theorem kind_ro {id : Nat} {sh : ShI} {x : sh.ty S} {it : AI S} {f : Nat → Nat} (hk : kindOk sh it = true) (hb : IRh rs ρ I w id (mkI cx f sh x)) (h : RoR rs ρ I w id it) : RoR rs ρ I w id (mkI cx f sh x) := by
  cases sh <;> cases it <;> simp [kindOk] at hk <;> first | exact h.elim | skip
  rcases hb with ⟨_, hb, _⟩ | hb
  · exact hb.elim
  · exact hb
theorem conv_items {f : Nat → Nat} {g : Sg} {its : Its S} (hf : Con f g) : ∀ {l : List (Nat × ShI)} {y : tyI S l} {L1 : List It}, kindsA g its l = true → BIs rs cx f l y ρ I w → ItsR rs ρ I w (psA f its l) L1 → (∀ p ∈ L1, p.holds w) →
    ItsR rs (fun j => ρ (f j)) I w (mkIs cx (fun j => j) l y) L1
  | [], _, _, _, _, h, _ => h
  | s :: l, y, L1, hk, ⟨hb, hbs⟩, h, hh => by
    obtain ⟨id, it, e1, e2, hk1, hk2⟩ := kinds_cons hk
    have e3 := hf _ _ e1
    simp only [psA, e3, e2] at h
    rcases h with ⟨p, L', rfl, h1, h2⟩ | ⟨h1, h2⟩
    · have hp := hh p (List.mem_cons_self ..)
      rw [e3] at hb
      exact .inl ⟨p, L', rfl, mkI_ren s.2 (by rw [e3]; exact kind_own hk1 hb h1 hp), conv_items hf hk2 hbs h2 fun q hq => hh q (List.mem_cons_of_mem _ hq)⟩
    · rw [e3] at hb
      exact .inr ⟨mkI_ro s.2 (by rw [e3]; exact kind_ro hk1 hb h1), conv_items hf hk2 hbs h2 hh⟩
end
end Go.VX

/- VX, part n: a state that is put into a shape is what the shape tells. -/
namespace Go.VX
noncomputable section
open Go Go.SX Go.RowKit
set_option linter.unusedVariables false
variable {S : Nat → Type} {rs : RS S} {ρ ρ' : Hd} {I I' : Nat → Prop} {w w' w0 : World} {M : Nat → Prop} {F : List It} {m m1 m2 m' : Nat → Option (AI S)} {cx : Cx S} {P : Program} {β : Type} {r : β} {env : Env S} {its its1 : Its S} {E : List Value}

theorem stSub {L L' : List It} (s : St w0 M I L w) (h : L'.Sublist L) : St w0 M I L' w :=
  ⟨s.only, s.pair.sublist h, fun p hp => s.here p (h.subset hp), fun p hp => s.mine p (h.subset hp), fun p hp => s.apart p (h.subset hp), s.inn⟩
theorem BE.mono {f : Nat → Nat} (hr : Le ρ ρ') (hk : Kp I w I' w) : ∀ {l : List (Nat × ShV)} {y : tyE S l}, BE rs cx f l y ρ I w E → BE rs cx f l y ρ' I' w E
  | [], _, h => GLF.st hk h
  | s :: l, y, ⟨h1, h2⟩ => ⟨Rel.mono hr hk _ _ h1, BE.mono hr hk h2⟩
theorem canon_ok {g : Sg} {f : Nat → Nat} {l : List (Nat × ShI)} {y : tyI S l} (h : HR rs ρ I w w0 M F (fun j => lkI j its)) (hk : kindsA g its l = true) (hn : nodupI l = true) (hg : GInj g) (hf : Con f g) (hb : BIs rs cx f l y ρ I w) :
    ∃ L1 itsR LR, ItsR rs (fun j => ρ (f j)) I w (mkIs cx (fun j => j) l y) L1 ∧ (keysI itsR).Nodup ∧ (∀ j, lkI j itsR = if j ∈ keysI (psA f its l) then none else lkI j its) ∧ ItsR rs ρ I w itsR LR ∧ St w0 M I (L1 ++ (LR ++ F)) w := by
  obtain ⟨L1, itsR, LR, h1, h2, h3, h4, h5⟩ := HR.split (psA f its l) (psA_nodup hf hg hk hn) (fun q hq => (psA_mem hq).1) h
  exact ⟨L1, itsR, LR, conv_items hf hk hb h1 fun p hp => h5.here p (List.mem_append_left _ hp), h2, h3, h4, h5⟩
theorem keys_mkIs : ∀ {l : List (Nat × ShI)} {y : tyI S l}, keysI (mkIs cx (fun j => j) l y) = l.map (·.1)
  | [], _ => rfl
  | s :: l, y => by simp [mkIs, keysI, keys_mkIs (l := l)]
theorem nodupI_ok : ∀ {l : List (Nat × ShI)}, nodupI l = true → (l.map (·.1)).Nodup
  | [], _ => by simp
  | s :: l, h => by
    simp only [nodupI, Bool.and_eq_true, Bool.not_eq_true'] at h
    refine List.nodup_cons.2 ⟨fun hm => ?_, nodupI_ok h.2⟩
    rw [memN_iff.2 hm] at h; exact absurd h.1 (by simp)
theorem domG_ok {nx : Nat} : ∀ {g : Sg} {j id : Nat}, domG nx g = true → lkS j g = some id → j < nx
  | [], _, _, _, h => by simp [lkS] at h
  | p :: g, j, id, hd, h => by
    simp only [domG, Bool.and_eq_true] at hd
    rw [lkS_cons] at h
    split at h
    · rename_i e; subst e; exact Nat.le_of_ble_eq_true hd.1
    · exact domG_ok hd.2 h
/-- Numbers for what was matched; for all others one that stands for nothing. -/
def ofG (g : Sg) (nx : Nat) (j : Nat) : Nat := (lkS j g).getD nx
theorem ofG_con {g : Sg} {nx : Nat} : Con (ofG g nx) g := fun j id h => by simp [ofG, h]
theorem bound_key {g : Sg} {its : Its S} {l : List (Nat × ShI)} (h : kindsA g its l = true) {j : Nat} (hj : j ∈ l.map (·.1)) : ∃ id, lkS j g = some id := by
  obtain ⟨s, hs, rfl⟩ := List.mem_map.1 hj
  obtain ⟨id, _, e, _⟩ := kinds_bound h s hs
  exact ⟨id, e⟩
theorem lkS_idg : ∀ {n j : Nat}, lkS j (idg n) = if j < n then some j else none
  | 0, j => by simp [idg, lkS]
  | n + 1, j => by
    simp only [idg, lkS_cons, lkS_idg (n := n)]
    by_cases e : n = j
    · subst e; simp
    · rw [if_neg e]
      by_cases h : j < n
      · rw [if_pos h, if_pos (by omega)]
      · rw [if_neg h, if_neg (by omega)]
theorem idsG_idg : ∀ {n x : Nat}, x ∈ idsG (idg n) ↔ x < n
  | 0, x => by simp [idg, idsG]
  | n + 1, x => by simp only [idg, idsG, List.mem_cons, idsG_idg (n := n)]; omega
theorem gInj_idg : ∀ {n : Nat}, GInj (idg n)
  | 0 => List.nodup_nil
  | n + 1 => List.nodup_cons.2 ⟨fun h => by rw [idsG_idg] at h; omega, gInj_idg⟩
theorem coerce_ok (ok : CxOK P cx rs) {s : Sh} {nx na : Nat} {k : s.ty S → Option β} (h : coerce cx na s env its nx k = some r) :
    ∃ x, k x = some r ∧ ∀ {ρ : Hd} {I : Nat → Prop} {w w0 : World} {M : Nat → Prop} {F : List It} {E : List Value}, SR rs ρ I w w0 M F env its nx E →
      ∃ ρ' I', (∀ j z, j < na → ρ j = some z → ρ' j = some z) ∧ Kp I w I' w ∧ SR rs ρ' I' w w0 M F (mkE cx (fun j => j) s.env (P2.a x)) (mkIs cx (fun j => j) s.its (P2.b x)) s.nx E := by
  unfold coerce at h
  obtain ⟨x, g1, its1, nx1, d1, h1, h2, h3, h4, h5⟩ := matchE_ok ok s.env h
  obtain ⟨y, g2, its2, nx2, d2, k1, k2, k3, k4, k5⟩ := matchIs_ok ok s.its h1
  obtain ⟨hc, k1⟩ := bif_none k1
  simp only [Bool.and_eq_true] at hc
  refine ⟨P2.mk x y, k1, fun {ρ I w w0 M F E} hs => ?_⟩
  rw [P2.a_mk, P2.b_mk]
  have hf : Con (ofG g2 nx2) g2 := ofG_con
  have hle1 := (h5 _ (Con.sub k2 hf)).le
  have hle2 := (k5 _ hf).le
  have hgi : GInj g2 := k4 (h4 gInj_idg)
  obtain ⟨ρ1, I1, q1, q2, q3, q4, q5⟩ := (h5 _ (Con.sub k2 hf)).go (fun _ _ => rfl) (fun j hj => (hs.hN j hj).2) (fun j a _ => hs.hN j a) hs.hI
  have hm1 := (h5 _ (Con.sub k2 hf)).mon (fun j hj => (hs.hN j hj).2)
  have hfr1 := (h5 _ (Con.sub k2 hf)).fr (fun j hj => (hs.hN j hj).2)
  have q4 := q4.eq (m' := fun j => lkI j its1) fun j => ovr_at hm1 rfl
  obtain ⟨ρ2, I2, p1, p2, p3, p4, p5⟩ := (k5 _ hf).go (fun _ _ => rfl) hfr1 (fun j a _ => ⟨by rw [q2 j (by omega)]; exact (hs.hN j (by omega)).1, hfr1 j a⟩) q4
  have hm2 := (k5 _ hf).mon hfr1
  have hfr2 := (k5 _ hf).fr hfr1
  have p4 := p4.eq (m' := fun j => lkI j its2) fun j => ovr_at hm2 rfl
  obtain ⟨L1, itsR, LR, e1, e2, e3, e4, e5⟩ := canon_ok (cx := cx) p4 hc.1.1 hc.2 hgi hf (p5 () trivial)
  refine ⟨fun j => ρ2 (ofG g2 nx2 j), I2, fun j z hj hz => ?_, q3.trans p3, BE.envR (BE.mono p1 p3 (q5 E hs.hE)), ⟨_, L1, by rw [keys_mkIs]; exact nodupI_ok hc.2, fun _ => rfl, e1, stSub e5 (List.Sublist.append_left (List.sublist_append_right _ _) L1)⟩, fun j hj => ?_⟩
  · show ρ2 (ofG g2 nx2 j) = some z
    rw [hf j j (k2.2 _ _ (h2.2 _ _ (by rw [lkS_idg, if_pos hj])))]
    exact p1 _ _ (q1 _ _ hz)
  have hj1 : lkS j g2 = none := by
    cases e : lkS j g2 with
    | none => rfl
    | some id => have := domG_ok hc.1.2 e; omega
  refine ⟨?_, ?_⟩
  · show ρ2 (ofG g2 nx2 j) = none
    rw [ofG, hj1]
    show ρ2 nx2 = none
    rw [p2 nx2 (by omega), q2 nx2 (by omega)]
    exact (hs.hN nx2 (by omega)).1
  · rw [lkI_none, keys_mkIs]
    intro hm
    obtain ⟨id, e⟩ := bound_key hc.1.1 hm
    rw [hj1] at e; cases e
end
end Go.VX

/- VX, part o: operations that make or write what is one's own. -/
namespace Go.VX
noncomputable section
open Go Go.SX Go.RowKit
set_option linter.unusedVariables false
variable {S : Nat → Type} {rs : RS S} {ρ ρ' : Hd} {I I' : Nat → Prop} {w w' w0 : World} {M : Nat → Prop} {F : List It} {m m1 m2 m' : Nat → Option (AI S)} {cx : Cx S} {P : Program} {β : Type} {r : β} {env : Env S} {its its1 : Its S} {E : List Value}

def over (wr : List Nat) (m2 m' : Nat → Option (AI S)) : Nat → Option (AI S) := fun j => if j ∈ wr then m2 j else m' j
/-- How it goes on behind an operation. -/
def Next (rs : RS S) (ρ : Hd) (I : Nat → Prop) (w w0 : World) (M : Nat → Prop) (F : List It) (o : Oper) (E : List Value) (ds : List Deferred) (nx nx2 : Nat) (v : AV S) (m2 : Nat → Option (AI S)) (K : Act → World → Prop) : Prop :=
  ∀ (ρ' : Hd) (I' : Nat → Prop) (w' : World) (v' : Value), Le ρ ρ' → (∀ j, ¬(nx ≤ j ∧ j < nx2) → ρ' j = ρ j) → Kp I w I' w' → Rel rs ρ' I' w' v v' → HR rs ρ' I' w' w0 M F m2 → K (ac (putE E o.dst v') ds) w'
structure OpsR (rs : RS S) (ρ : Hd) (I : Nat → Prop) (w : World) (env : Env S) (E : List Value) (o : Op) : Prop where
  h : ∀ x ∈ o.operands.toList, Rel rs ρ I w (evA env x) (ev E x)
  gl : GLF rs I w
instance {o : Op} : CoeFun (OpsR rs ρ I w env E o) (fun _ => ∀ x ∈ o.operands.toList, Rel rs ρ I w (evA env x) (ev E x)) := ⟨OpsR.h⟩
/-- An operation does this. -/
structure GoodE (P : Program) (rs : RS S) (o : Op) (env : Env S) (m : Nat → Option (AI S)) (nx : Nat) (rd wr : List Nat) (v : AV S) (m2 : Nat → Option (AI S)) (nx2 : Nat) : Prop where
  le : nx ≤ nx2
  fr : (∀ j, nx ≤ j → m j = none) → ∀ j, nx2 ≤ j → m2 j = none
  same : (∀ j, nx ≤ j → m j = none) → ∀ j, j ∉ wr → m2 j = m j
  go : ∀ {md : Option Nat} {ρ : Hd} {I : Nat → Prop} {w w0 : World} {M : Nat → Prop} {F : List It} {E : List Value} {ds : List Deferred} {m' : Nat → Option (AI S)} {K : Act → World → Prop} {O : Oper}, O.op = o → OpsR rs ρ I w env E o → (∀ id ∈ rd, m' id = m id) → (∀ j, nx ≤ j → m j = none) → (∀ j, nx ≤ j → j < nx2 → ρ j = none ∧ m' j = none) → HR rs ρ I w w0 M F m' →
    Next rs ρ I w w0 M F O E ds nx nx2 v (over wr m2 m') K → opK md P O K (ac E ds) w
theorem over_nil : over [] m2 m' = m' := by funext j; simp [over]
theorem GoodP.goodE (hT : Tb.ok P cx.T) {o : Op} {nx : Nat} {rd : List Nat} {v : AV S} (h : GoodP cx rs o env m rd v) : GoodE P rs o env m nx rd [] v m nx :=
  ⟨Nat.le_refl _, fun h => h, fun _ _ _ => rfl, fun {md ρ I w w0 M F E ds m' K O} e hop hd h1 h2 hr hk => by
    obtain ⟨ld, v', c, h3, h4, h5⟩ := h hop.h hd hr
    exact OK.pure hT (by rw [e]; exact h3) h4 (hk ρ I w v' (Le.refl _) (fun _ _ => rfl) Kp.refl h5 (by rw [over_nil]; exact hr))⟩
mutual
theorem forceV_eq : ∀ (v : AV S) (k : AV S → Option β), forceV v k = k v
  | .any, _ => rfl
  | .nilp, _ => rfl
  | .nilf, _ => rfl
  | .nils, _ => rfl
  | .int _ _, _ => rfl
  | .bl _, _ => rfl
  | .pr _ _, _ => rfl
  | .str _, _ => rfl
  | .ro _ _ _, _ => rfl
  | .own _, _ => rfl
  | .part _ _ _, _ => rfl
  | .ptr _ _, _ => rfl
  | .aptr _, _ => rfl
  | .yld _, _ => rfl
  | .eown _ _ _, _ => rfl
  | .ero _ _ _, _ => rfl
  | .lits _ _, _ => rfl
  | .arr _ _ _, _ => rfl
  | .agg cs, k => by simp only [forceV]; rw [forceL_eq cs]
  | .tup cs, k => by simp only [forceV]; rw [forceL_eq cs]
  | .fn f a b, k => by simp only [forceV]; rw [forceL_eq a, forceL_eq b]
  | .glob _, _ => rfl
theorem forceL_eq : ∀ (l : List (AV S)) (k : List (AV S) → Option β), forceL l k = k l
  | [], _ => rfl
  | v :: l, k => by simp only [forceL]; rw [forceV_eq v, forceL_eq l]
end
theorem fresh_cons {nx : Nat} {x : AI S} : (fun j => lkI j ((nx, x) :: its)) = upd (fun j => lkI j its) nx (some x) := by
  funext j; rw [lkI_cons]; simp only [upd]
  by_cases e : j = nx
  · subst e; simp
  · simp [e, Ne.symm e]
theorem over_one {nx : Nat} {x : AI S} : over [nx] (upd m nx (some x)) m' = upd m' nx (some x) := by
  funext j; simp only [over, upd, List.mem_singleton]
  by_cases e : j = nx <;> simp [e]
/-- Something new is made: a block. -/
theorem good_new (hT : Tb.ok P cx.T) {o : Op} {nx e sz : Nat} {v : AV S} {x : AI S} {hd : Nat → Value}
    (hnew : ∀ {ρ : Hd} {I : Nat → Prop} {w w0 : World} {M : Nat → Prop} {F : List It} {m' : Nat → Option (AI S)} {E : List Value}, (∀ x ∈ o.operands.toList, Rel rs ρ I w (evA env x) (ev E x)) → HR rs ρ I w w0 M F m' →
      ∃ f cs c, newV cx.T E o = some (f, cs, e, c) ∧ c.holds w ∧ ∀ ρ' I' w1 b L, Le ρ ρ' → Kp I w I' w1 → ρ' nx = some (hd b, sz) → St w0 M I' (.blk b (.cells cs.toArray e) :: L) w1 → Rel rs ρ' I' w1 v (f b) ∧ ∃ p, ItR rs ρ' I' w1 nx x p ∧ St w0 M I' (p :: L) w1) :
    GoodE P rs o env (fun j => lkI j its) nx [] [nx] v (fun j => lkI j ((nx, x) :: its)) (nx + 1) := by
  rw [fresh_cons]
  refine ⟨Nat.le_succ _, fun h j hj => by simp only [upd, if_neg (show j ≠ nx by omega)]; exact h j (by omega), fun _ j hj => by simp only [List.mem_singleton] at hj; simp [upd, hj], fun {md ρ I w w0 M F E ds m' K O} e hop hd' h1 h2 hr hk => ?_⟩
  obtain ⟨e1, e2⟩ := h2 nx (Nat.le_refl _) (Nat.lt_succ_self _)
  obtain ⟨f, cs, c, h3, h4, h5⟩ := hnew hop.h hr
  obtain ⟨its2, L, k1, k2, k3, k4, s⟩ := hr.fresh e2
  refine OK.new hT s (by rw [e]; exact h3) h4 fun w1 b s1 kp _ => ?_
  have hle := Le.upd (x := (hd b, sz)) e1
  obtain ⟨h6, p, h7, h8⟩ := h5 _ I w1 b (L ++ F) hle kp (by simp) s1
  refine hk _ I w1 (f b) hle (fun j hj => if_neg (by omega)) kp h6 ?_
  rw [over_one]
  exact HR.push k1 k2 k3 (ItsR.mono hle kp k4) h7 h8
theorem newA_ok (hT : Tb.ok P cx.T) {o : Op} {nx e : Nat} {cs : List (AV S)} {k : AV S → Its S → Nat → List Nat → List Nat → Option β} (h : newA e cs its nx k = some r)
    (hnew : flatL cs = true → ∀ {ρ : Hd} {I : Nat → Prop} {w w0 : World} {M : Nat → Prop} {F : List It} {m' : Nat → Option (AI S)} {E : List Value}, (∀ x ∈ o.operands.toList, Rel rs ρ I w (evA env x) (ev E x)) → HR rs ρ I w w0 M F m' →
      ∃ vs, newV cx.T E o = some (fun b => .pointer (some ⟨b, 0, none⟩), vs, e, .tt) ∧ RelL rs ρ I w cs vs) :
    ∃ v its2 nx2 rd wr, k v its2 nx2 rd wr = some r ∧ GoodE P rs o env (fun j => lkI j its) nx rd wr v (fun j => lkI j its2) nx2 := by
  unfold newA at h
  rw [forceL_eq] at h
  obtain ⟨h1, h2⟩ := bif_none h
  refine ⟨_, _, _, _, _, h2, good_new (e := e) hT (hd := fun b => .pointer (some ⟨b, 0, none⟩)) (sz := 0) fun hop hr => ?_⟩
  obtain ⟨vs, h3, h4⟩ := hnew h1 hop hr
  refine ⟨_, vs, .tt, h3, trivial, fun ρ' I' w1 b L hle kp hρ s => ⟨⟨b, 0, rfl, hρ⟩, _, ⟨b, vs, 0, hρ, rfl, RelL.mono hle kp _ _ h4, flatL_rel h1 h4⟩, s⟩⟩
theorem blk_arr {L : List It} {b e N : Nat} {i : IntKind} {xs : List Int} (hN : xs.length = N) (hm : N ≤ 9223372036854775807) (s : St w0 M I (.blk b (.cells (xs.map (Value.int i)).toArray e) :: L) w) :
    St w0 M I (.sl (.slice (some ⟨b, 0, none⟩) N N) e 1 N (xs.map (Value.int i)) :: L) w := by
  have := s.blkSl (i := 0) (n := N) (c := N) (size := 1) rfl (by simp [hN]) (Nat.le_refl _) hm
  simpa [List.take_of_length_le, hN] using this
theorem zeroL_ok {i : IntKind} : ∀ {n : Nat} {l : List Value}, zeroL i n l = true → l = List.replicate n (.int i 0)
  | 0, [], _ => rfl
  | 0, _ :: _, h => by simp [zeroL] at h
  | n + 1, [], h => by simp [zeroL] at h
  | n + 1, v :: l, h => by
    cases v <;> simp [zeroL] at h
    obtain ⟨rfl, rfl, h⟩ := h
    rw [zeroL_ok h]; rfl
theorem good_arr (hT : Tb.ok P cx.T) {o : Op} {nx e N : Nat} {i : IntKind} {xs : List Int} {k : AV S → Its S → Nat → List Nat → List Nat → Option β} (h : k (.aptr nx) ((nx, .arr i e N xs) :: its) (nx + 1) [] [nx] = some r) (hm : N ≤ 9223372036854775807)
    (hnew : ∀ {ρ : Hd} {I : Nat → Prop} {w w0 : World} {M : Nat → Prop} {F : List It} {m' : Nat → Option (AI S)} {E : List Value}, (∀ x ∈ o.operands.toList, Rel rs ρ I w (evA env x) (ev E x)) → HR rs ρ I w w0 M F m' →
      newV cx.T E o = some (fun b => .pointer (some ⟨b, 0, none⟩), xs.map (Value.int i), e, .tt) ∧ xs.length = N) :
    ∃ v its2 nx2 rd wr, k v its2 nx2 rd wr = some r ∧ GoodE P rs o env (fun j => lkI j its) nx rd wr v (fun j => lkI j its2) nx2 := by
  refine ⟨_, _, _, _, _, h, good_new (e := e) hT (hd := fun b => .slice (some ⟨b, 0, none⟩) N N) (sz := 1) fun hop hr => ?_⟩
  obtain ⟨h3, h4⟩ := hnew hop hr
  exact ⟨_, _, .tt, h3, trivial, fun ρ' I' w1 b L hle kp hρ s => ⟨⟨b, N, N, 1, rfl, hρ⟩, _, ⟨b, hρ, rfl, h4⟩, blk_arr h4 hm s⟩⟩
theorem allocA_ok (ok : CxOK P cx rs) {e nx : Nat} {k : AV S → Its S → Nat → List Nat → List Nat → Option β} (h : allocA cx e its nx k = some r) :
    ∃ v its2 nx2 rd wr, k v its2 nx2 rd wr = some r ∧ GoodE P rs (.alloc e) env (fun j => lkI j its) nx rd wr v (fun j => lkI j its2) nx2 := by
  unfold allocA at h
  split at h
  · rename_i N ie e1 e2
    split at h
    · rename_i i e3 e4
      obtain ⟨h1, h2⟩ := bif_none h
      simp only [Bool.and_eq_true] at h1
      refine good_arr ok.hT h2 (Nat.le_of_ble_eq_true h1.2) fun hop hr => ⟨?_, by simp⟩
      have hz := h1.1
      simp only [newV, e1, if_true, Option.some.injEq, Prod.mk.injEq, true_and, and_true]
      cases hv : (cx.T e).zero <;> rw [hv] at hz <;> simp [zeroV] at hz
      rw [show (Value.agg _).cells.toList = _ from zeroL_ok hz]; simp
    · cases h
  · rename_i e1
    split at h
    · rename_i cs e2
      refine newA_ok ok.hT h fun hfl => fun hop hr => ⟨(cx.T e).zero.cells.toList, by simp only [newV]; rw [if_pos (by assumption)], (zeroA_ok e2).2⟩
    · cases h
  · cases h
theorem boxA_ok (ok : CxOK P cx rs) {e nx : Nat} {x : Operand} {k : AV S → Its S → Nat → List Nat → List Nat → Option β} (h : boxA e (evA env x) its nx k = some r) :
    ∃ v its2 nx2 rd wr, k v its2 nx2 rd wr = some r ∧ GoodE P rs (.box e x) env (fun j => lkI j its) nx rd wr v (fun j => lkI j its2) nx2 := by
  unfold boxA at h
  split at h
  · rename_i i N xs e1
    obtain ⟨h1, h2⟩ := bif_none h
    refine good_arr ok.hT h2 (Nat.le_of_ble_eq_true h1) fun hop hr => ?_
    have hx := hop x (by simp [Op.operands]); rw [e1] at hx
    obtain ⟨h3, h4⟩ := hx
    exact ⟨by simp only [newV, h3]; simp [Value.cells], h4⟩
  · rename_i v hne
    refine newA_ok ok.hT h fun hfl => fun {ρ I w w0 M F m' E} hop hr => ⟨(ev E x).cells.toList, rfl, cellsA_rel (fun i N xs => hne i N xs) (hop x (by simp [Op.operands])) hfl⟩
end
end Go.VX
