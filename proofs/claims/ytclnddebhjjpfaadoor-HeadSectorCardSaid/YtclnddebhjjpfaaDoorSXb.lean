/- SX, part b: one operation that leaves the world alone: its value, and what must hold of the world for it. -/
import Derived.Test.YtclnddebhjjpfaaDoorSXa
import Derived.WalkKit
import Derived.WalkSpells
import Derived.WalkLawsBesides
import Derived.Laws.BytesArg
namespace Go.SX
open Go

inductive TD where
  | int (k : IntKind) | bool | str | ptr (e : Nat) | slice (e : Nat) | arr (n e : Nat) | strct (fs : List (Nat × Nat)) | func | flat | other
structure TR where
  known : Bool
  td : TD
  size : Nat
  bytes : Nat
  zero : Value
def TR.none : TR := ⟨false, .other, 0, 0, undef⟩
def TD.ok (P : Program) (t : Nat) : TD → Prop
  | .int k => P.underlying t = some (.int k)
  | .bool => P.underlying t = some .bool
  | .str => P.underlying t = some .string
  | .ptr e => P.underlying t = some (.pointer e)
  | .slice e => P.underlying t = some (.slice e)
  | .arr n e => P.underlying t = some (.array n e)
  | .strct fs => (P.underlying t).bind (fun d => match d with | .struct F => some (F.toList.map fun f => (f.offset, f.type)) | _ => none) = some fs
  | .func => (P.underlying t).map (fun d => match d with | .func .. => true | _ => false) = some true
  | .flat => (P.underlying t).map (fun d => match d with | .struct _ | .array _ _ => true | _ => false) = some false
  | .other => True
structure TR.ok (P : Program) (t : Nat) (r : TR) : Prop where
  info : (P.info? t).map (fun i => (i.size, i.bytes, i.zero)) = some (r.size, r.bytes, some r.zero)
  td : r.td.ok P t
abbrev Tb := Nat → TR
def Tb.ok (P : Program) (T : Tb) : Prop := ∀ t, (T t).known = true → (T t).ok P t
def tbl (l : List TR) : Tb := fun t => l.getD t TR.none
def allOK (P : Program) : Nat → List TR → Prop
  | _, [] => True
  | i, r :: l => (r.known = true → r.ok P i) ∧ allOK P (i + 1) l
theorem allOK.get {P : Program} : ∀ (l : List TR) (i : Nat), allOK P i l → ∀ j, (l.getD j TR.none).known = true → (l.getD j TR.none).ok P (i + j)
  | [], _, _, j, h => by simp [TR.none] at h
  | r :: l, i, hl, 0, h => by simpa using hl.1 (by simpa using h)
  | r :: l, i, hl, j + 1, h => by
    have := allOK.get l (i + 1) hl.2 j (by simpa using h)
    rw [show i + (j + 1) = i + 1 + j by omega]
    simpa using this
theorem tbl.ok {P : Program} {l : List TR} (h : allOK P 0 l) : Tb.ok P (tbl l) := fun t ht => by
  have := allOK.get l 0 h t ht
  simpa [tbl] using this

/-- An address further on. -/
def plus : Addr → Nat → Addr
  | ⟨b, o, none⟩, k => ⟨b, o + k, none⟩
  | a, k => a.add k
theorem plus_eq (a : Addr) (k : Nat) : plus a k = a.add k := by
  obtain ⟨b, o, s⟩ := a
  cases s with
  | none => unfold plus Addr.add; split <;> simp_all
  | some s => rfl
/-- Where a part of a slice begins. -/
def cutA (a : Option Addr) (l m size : Nat) : Option Addr := if m = l then a else a.map (plus · (l * size))
/-- What an operation asks of the world (or of numbers). -/
inductive C where
  | tt
  | cell (a : Addr) (v : Value)
  | cells (a : Addr) (vs : List Value) (n : Nat)
  | idx (i : Int) (n : Nat)
  | cut (l h m c : Int)
  | ne0 (x : Int)
  | nn (x : Int)
  | le (x y : Nat)
  | bo (b b' : Bool)
  | veq (v v' : Value)
  | bytes (A : Option Addr) (n : Nat) (bs : ByteArray)
  | both (c d : C)
def C.holds (w : World) : C → Prop
  | .tt => True
  | .cell a v => w.cell? a = some v
  | .cells a vs n => vs.length = n ∧ ∀ j v, vs[j]? = some v → w.cell? (plus a j) = some v
  | .idx i n => 0 ≤ i ∧ i < n
  | .cut l h m c => 0 ≤ l ∧ l ≤ h ∧ h ≤ m ∧ m ≤ c
  | .ne0 x => x ≠ 0
  | .nn x => 0 ≤ x
  | .le x y => x ≤ y
  | .bo b b' => b = b'
  | .veq v v' => v = v'
  | .bytes A n bs => ∃ xs : List Int, bs = strOfNums xs ∧ n = xs.length ∧ ((A = none ∧ xs = []) ∨ ∃ a, A = some a ∧ ∀ j v, (xs.map (Value.int .u8))[j]? = some v → w.cell? (a.add j) = some v)
  | .both c d => c.holds w ∧ d.holds w

def TD.agg : TD → Option Bool
  | .strct _ | .arr _ _ => some true
  | .other => none
  | _ => some false
def partV (T : Tb) (t : Nat) (cs : List Value) (off : Nat) : Option Value :=
  match (T t).known, (T t).td.agg with
  | true, some true => some (.agg ((cs.drop off).take (T t).size).toArray)
  | true, some false => cs[off]?
  | _, _ => none
def byteAt (s : ByteArray) (i : Int) : Int := ((s.data.toList.getD i.toNat 0).toNat : Int)
def binV (T : Tb) (op : BinOp) (t : Nat) (x y : Value) : Option (Value × C) :=
  match x, y with
  | .int k a, .int k' b =>
    match op with
    | .shl => some (.int k (k.wrap (a * 2 ^ min b.toNat k.bits)), .nn b)
    | .shr => some (.int k (a.fdiv (2 ^ min b.toNat k.bits)), .nn b)
    | op =>
      if k = k' then
        match op with
        | .add => some (.int k (k.wrap (a + b)), .tt)
        | .sub => some (.int k (k.wrap (a - b)), .tt)
        | .mul => some (.int k (k.wrap (a * b)), .tt)
        | .quo => some (.int k (k.wrap (a.tdiv b)), .ne0 b)
        | .rem => some (.int k (a.tmod b), .ne0 b)
        | .and => some (.int k (k.wrap (BitVec.ofInt k.bits a &&& BitVec.ofInt k.bits b).toNat), .tt)
        | .or => some (.int k (k.wrap (BitVec.ofInt k.bits a ||| BitVec.ofInt k.bits b).toNat), .tt)
        | .xor => some (.int k (k.wrap (BitVec.ofInt k.bits a ^^^ BitVec.ofInt k.bits b).toNat), .tt)
        | .andNot => some (.int k (k.wrap (BitVec.ofInt k.bits a &&& ~~~BitVec.ofInt k.bits b).toNat), .tt)
        | .eql => some (.bool (a == b), .tt)
        | .neq => some (.bool (a != b), .tt)
        | .lss => some (.bool (decide (a < b)), .tt)
        | .leq => some (.bool (decide (a ≤ b)), .tt)
        | .gtr => some (.bool (decide (a > b)), .tt)
        | .geq => some (.bool (decide (a ≥ b)), .tt)
        | _ => none
      else none
  | .string a, .string b =>
    match op with
    | .add => some (.string (a ++ b), .le (a.size + b.size) 9223372036854775807)
    | .eql => some (.bool (a.toList == b.toList), .tt)
    | .neq => some (.bool (!(a.toList == b.toList)), .tt)
    | .lss => some (.bool (Op.bytesLess a.toList b.toList), .tt)
    | .leq => some (.bool (Op.bytesLess a.toList b.toList || a.toList == b.toList), .tt)
    | .gtr => some (.bool (!(Op.bytesLess a.toList b.toList || a.toList == b.toList)), .tt)
    | .geq => some (.bool (!(Op.bytesLess a.toList b.toList)), .tt)
    | _ => none
  | .bool a, .bool b =>
    match (T t).known, (T t).td, op with
    | true, .bool, .eql => some (.bool (a == b), .tt)
    | true, .bool, .neq => some (.bool (!(a == b)), .tt)
    | _, _, _ => none
  | .pointer a, .pointer none =>
    match (T t).known, (T t).td, op with
    | true, .ptr _, .eql => some (.bool a.isNone, .tt)
    | true, .ptr _, .neq => some (.bool (!a.isNone), .tt)
    | _, _, _ => none
  | .slice a _ _, .slice none 0 0 =>
    match (T t).known, (T t).td, op with
    | true, .slice _, .eql => some (.bool a.isNone, .tt)
    | true, .slice _, .neq => some (.bool (!a.isNone), .tt)
    | _, _, _ => none
  | .nilFunc, .nilFunc =>
    match (T t).known, (T t).td, op with
    | true, .func, .eql => some (.bool true, .tt)
    | true, .func, .neq => some (.bool false, .tt)
    | _, _, _ => none
  | .func _ _ _, .nilFunc =>
    match (T t).known, (T t).td, op with
    | true, .func, .eql => some (.bool false, .tt)
    | true, .func, .neq => some (.bool true, .tt)
    | _, _, _ => none
  | _, _ => none
def unV (op : UnOp) (x : Value) : Option Value :=
  match op, x with
  | .neg, .int k n => some (.int k (k.wrap (0 - n)))
  | .xor, .int k n => some (.int k (k.wrap (BitVec.ofInt k.bits (if k.signed then -1 else k.max) ^^^ BitVec.ofInt k.bits n).toNat))
  | .not, .bool b => some (.bool (!b))
  | _, _ => none
def sliceV (T : Tb) (t : Nat) (x : Value) (lo hi mx : Option Value) : Option (Value × C) :=
  let fin (a : Option Addr) (e len cap : Nat) : Option (Value × C) :=
    match lo, hi, mx with
    | none, none, none => some (.slice a len cap, .tt)
    | some (.int _ l), none, none => some (.slice (cutA a l.toNat cap (T e).size) (len - l.toNat) (cap - l.toNat), .cut l len cap cap)
    | none, some (.int _ h), none => some (.slice a h.toNat cap, .cut 0 h cap cap)
    | some (.int _ l), some (.int _ h), none => some (.slice (cutA a l.toNat cap (T e).size) (h.toNat - l.toNat) (cap - l.toNat), .cut l h cap cap)
    | none, some (.int _ h), some (.int _ m) => some (.slice a h.toNat m.toNat, .cut 0 h m cap)
    | some (.int _ l), some (.int _ h), some (.int _ m) => some (.slice (cutA a l.toNat m.toNat (T e).size) (h.toNat - l.toNat) (m.toNat - l.toNat), .cut l h m cap)
    | _, _, _ => none
  match (T t).known, (T t).td, x with
  | true, .slice e, .slice a len cap => if (T e).known then fin a e len cap else none
  | true, .arr n e, .pointer (some a) => if (T e).known then fin (some a) e n n else none
  | _, _, _ => none
def setL (cs : List Value) : Nat → List Value → List Value
  | _, [] => cs
  | off, v :: vs => setL (cs.set off v) (off + 1) vs
def fillL (place : Nat → Option (Nat × Nat)) (cs : List Value) : List (Nat × Value) → Option (List Value)
  | [] => some cs
  | (i, v) :: rest =>
    match place i with
    | none => none
    | some (off, size) => if v.cells.toList.length = size ∧ off + v.cells.toList.length ≤ cs.length then fillL place (setL cs off v.cells.toList) rest else none
def buildV (T : Tb) (t : Nat) (parts : List (Nat × Value)) : Option (Value × C) :=
  match (T t).known, (T t).td with
  | true, .strct fs => if fs.all (fun f => (T f.2).known) then (fillL (fun i => (fs[i]?).map fun f => (f.1, (T f.2).size)) (T t).zero.cells.toList parts).map fun cs => (.agg cs.toArray, .tt) else none
  | true, .arr _ e => if (T e).known then (fillL (fun i => some (i * (T e).size, (T e).size)) (T t).zero.cells.toList parts).map fun cs => (.agg cs.toArray, .tt) else none
  | _, _ => none
def stepOp (T : Tb) (E : List Value) (op : Op) (ld : Value) : Option (Value × C) :=
  match op with
  | .move x | .assign x => some (ev E x, .tt)
  | .pick c a b => match ev E c with
    | .bool true => some (ev E a, .tt)
    | .bool false => some (ev E b, .tt)
    | _ => none
  | .binOp op t x y _ => binV T op t (ev E x) (ev E y)
  | .unOp op _ x => (unV op (ev E x)).map fun v => (v, .tt)
  | .convert s d x => match (T s).known, (T s).td, (T d).known, (T d).td, ev E x with
    | true, .int _, true, .int k, .int _ n => some (.int k (k.wrap n), .tt)
    | true, .slice e, true, .str, .slice A n _ => match (T e).known, (T e).td, ld with
      | true, .int .u8, .string bs => some (.string bs, .bytes A n bs)
      | _, _, _ => none
    | _, _, _, _, _ => none
  | .nilCheck x => match ev E x with
    | .pointer (some a) => some (.pointer (some a), .tt)
    | _ => none
  | .fieldAddr t x f => match (T t).known, (T t).td, ev E x with
    | true, .strct fs, .pointer (some a) => match fs[f]? with
      | some (off, ft) => if (T ft).known && (T ft).size != 0 then some (.pointer (some (plus a off)), .tt) else none
      | none => none
    | _, _, _ => none
  | .field t x f => match (T t).known, (T t).td, ev E x with
    | true, .strct fs, .agg cs => match fs[f]? with
      | some (off, ft) => (partV T ft cs.toList off).map fun v => (v, .tt)
      | none => none
    | _, _, _ => none
  | .indexAddr t x i => match (T t).known, (T t).td, ev E x, ev E i with
    | true, .slice e, .slice (some a) len _, .int _ n => if (T e).known then some (.pointer (some (plus a (n.toNat * (T e).size))), .idx n len) else none
    | true, .arr len e, .pointer (some a), .int _ n => if (T e).known then some (.pointer (some (plus a (n.toNat * (T e).size))), .idx n len) else none
    | _, _, _, _ => none
  | .index t x i => match (T t).known, (T t).td, ev E x, ev E i with
    | true, .str, .string s, .int _ n => some (.int .u8 (byteAt s n), .idx n s.size)
    | true, .arr len e, .agg cs, .int _ n => if (T e).known then (partV T e cs.toList (n.toNat * (T e).size)).map fun v => (v, .idx n len) else none
    | _, _, _, _ => none
  | .slice t x lo hi mx => sliceV T t (ev E x) (lo.map (ev E)) (hi.map (ev E)) (mx.map (ev E))
  | .extract x i => match ev E x with
    | .tuple vs => (vs.toList[i]?).map fun v => (v, .tt)
    | _ => none
  | .makeFunc fn first captured => some (.func fn (first.toList.map (ev E)).toArray (captured.toList.map (ev E)).toArray, .tt)
  | .call ⟨.builtin .len, ⟨[x]⟩, ⟨[t]⟩⟩ => match (T t).known, (T t).td, ev E x with
    | true, .slice _, .slice _ n _ => some (.int .i64 n, .tt)
    | true, .str, .string s => some (.int .i64 s.size, .tt)
    | _, _, _ => none
  | .call ⟨.builtin .min, ⟨[x, y]⟩, _⟩ => match ev E x, ev E y with
    | .int k a, .int _ b => some (.int k (if b < a then b else a), .tt)
    | _, _ => none
  | .call ⟨.builtin .max, ⟨[x, y]⟩, _⟩ => match ev E x, ev E y with
    | .int k a, .int _ b => some (.int k (if b > a then b else a), .tt)
    | _, _ => none
  | .load t a => match (T t).known, (T t).td.agg, ev E a, ld with
    | true, some true, .pointer (some ad), .agg cs => some (.agg cs, .cells ad cs.toList (T t).size)
    | true, some false, .pointer (some ad), v => some (v, .cell ad v)
    | _, _, _, _ => none
  | .build t parts => buildV T t (parts.toList.map fun p => (p.1, ev E p.2))
  | _ => none
end Go.SX
