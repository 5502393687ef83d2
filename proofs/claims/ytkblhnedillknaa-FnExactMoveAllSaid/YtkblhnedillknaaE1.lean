import Derived.Calls
import Derived.LoopN
import Derived.Orders
import Derived.Below
import Derived.Laws.Append
import Derived.Laws.AppendOwn
set_option linter.unusedVariables false
set_option linter.unusedSimpArgs false
section
/- An evaluator over the kit's code. Values are plain data; memory is local to a function; slices, pointers and closures are handed to callees by value. Definitions alone. -/
namespace Go.Ev

/-! ## Types as the evaluator sees them -/

inductive SK
  | int (k : IntKind)
  | bool

def SK.val : SK → Int → Value
  | .int k, n => .int k n
  | .bool, n => .bool (n != 0)

inductive TyD
  | sc (s : SK)
  | str
  | struct (fs : List (Nat × TypeId))
  | arr (n : Nat) (e : TypeId)
  | slice (e : TypeId)
  | ptr (e : TypeId)
  | fnB (a : TypeId)
  | fnL (a e : TypeId)
  | map (k e : TypeId)
  | other

/-- `size` in cells; `ks` the kinds of the cells where all are integers or bools, else empty. -/
structure TyI where
  d : TyD
  size : Nat
  ks : List SK

abbrev Tab := List (Nat × TyI)

def look {α : Type} (dflt : α) : List (Nat × α) → Nat → α
  | [], _ => dflt
  | (i, v) :: r, t => cond (Nat.beq i t) v (look dflt r t)

def Tab.at (T : Tab) (t : TypeId) : TyI := look ⟨.other, 0, []⟩ T t

def TyI.flat (i : TyI) : Bool := match i.ks with | [] => false | _ => true

def isFlatTy (T : Tab) (t : TypeId) : Bool := (T.at t).flat

def known (T : Tab) (t : TypeId) : Bool := match (T.at t).d with
  | .other => false
  | _ => true

/-! ## Values -/

inductive V
  | undef
  | skip
  | nil
  | bool (b : Bool)
  | int (k : IntKind) (n : Int)
  | str (s : ByteArray)
  | agg (t : TypeId) (l : List Int)
  | tup (vs : List V)
  | ptr (k : Nat) (off : Nat) (t : TypeId)
  | slw (k : Nat) (e : TypeId)
  | sl (k : Nat) (off len : Nat) (e : TypeId)
  | pvi (t0 : Option TypeId) (l : List Int) (off : Nat) (t : TypeId)
  | pvv (vs : List V) (off : Nat) (t : TypeId)
  | pvr (e : TypeId) (xss : List (List Int)) (i : Nat)
  | slv (e : TypeId) (l : List Int)
  | slr (e : TypeId) (xss : List (List Int))
  | fn (f : FuncId) (first cap : List V)
  | cloB (a : TypeId) (g : List Int → Option Bool)
  | cloL (a e : TypeId) (g : List Int → Option (List Int))

inductive D
  | ints (l : List Int)
  | rows (xss : List (List Int))
  | vals (vs : List V)

/-- A block: a variable of type e (r), or the array behind slices of elements e. -/
structure Blk where
  e : TypeId
  r : Bool
  d : D

def Blk.root (b : Blk) : Option TypeId := cond b.r (some b.e) none

structure St where
  n : Nat
  env : List (Nat × V)
  own : List (Nat × Option Blk)

def rd (l : List Int) (i : Nat) : Int := l.getD i 0
def rdr (xss : List (List Int)) (i : Nat) : List Int := xss.getD i []
def win (l : List Int) (off n : Nat) : List Int := (l.drop off).take n
def rds (l : List Int) (off : Nat) : Nat → Nat → List Int
  | _, 0 => []
  | j, n + 1 => rd l (off + j) :: rds l off (j + 1) n
def setWin (l : List Int) (off n : Nat) (m : List Int) : List Int := l.take off ++ (m ++ l.drop (off + n))
def setAt : List Int → Nat → List Int → List Int
  | l, _, [] => l
  | l, off, x :: r => setAt (l.set off x) (off + 1) r
def eqL : List Int → List Int → Bool
  | [], [] => true
  | a :: x, b :: y => a == b && eqL x y
  | _, _ => false
def cnt (sz : Nat) (l : List Int) : Nat := l.length / sz
def flatten : List (List Int) → List Int
  | [] => []
  | x :: r => x ++ flatten r

mutual
def V.has (k : Nat) : V → Bool
  | .ptr k' _ _ => Nat.beq k' k
  | .slw k' _ => Nat.beq k' k
  | .sl k' _ _ _ => Nat.beq k' k
  | .tup vs => V.hasL k vs
  | .fn _ a b => V.hasL k a || V.hasL k b
  | _ => false
def V.hasL (k : Nat) : List V → Bool
  | [] => false
  | v :: r => V.has k v || V.hasL k r
end

def St.get (s : St) (t : Nat) : V := look .undef s.env t
def St.blk (s : St) (k : Nat) : Option Blk := look none s.own k
def St.put (s : St) (d : Nat) (v : V) : St := ⟨s.n, (d, v) :: s.env, s.own⟩
def St.setB (s : St) (k : Nat) (b : Blk) : St := ⟨s.n, s.env, (k, some b) :: s.own⟩
def St.drop (s : St) (k : Nat) : St := ⟨s.n, s.env, (k, none) :: s.own⟩
def killE (k : Nat) : List (Nat × V) → List (Nat × V)
  | [] => []
  | (i, v) :: r => (i, cond (V.has k v) .undef v) :: killE k r
def St.kill (s : St) (k : Nat) : St := ⟨s.n, killE k s.env, s.own⟩

def SK.mk : SK → Int → V
  | .int k, n => .int k n
  | .bool, n => .bool (n != 0)

def ofConst : Value → V
  | .bool b => .bool b
  | .int k n => .int k n
  | .string s => .str s
  | .slice none 0 0 => .nil
  | _ => .undef

def St.ev (s : St) : Operand → V
  | .tmp t => s.get t
  | .const v => ofConst v
  | .func f => .fn f [] []
  | .global _ => .undef

/-- The payload of a value without references. -/
def V.flat : V → Option (List Int)
  | .bool b => some [cond b 1 0]
  | .int _ n => some [n]
  | .agg _ l => some l
  | _ => none

def rootEq (t0 : Option TypeId) (t : TypeId) (off : Nat) : Bool :=
  match t0 with
  | none => false
  | some u => Nat.beq u t && Nat.beq off 0

/-- What a load of type `t` (described by `ti`) gives out of a flat payload. -/
def loadI (ti : TyI) (t : TypeId) (t0 : Option TypeId) (l : List Int) (off : Nat) : V :=
  match ti.d with
  | .sc s => s.mk (rd l off)
  | _ => .agg t (cond (Nat.ble ti.size 8) (rds l off 0 ti.size) (cond (rootEq t0 t off) l (win l off ti.size)))

def storeI (ti : TyI) (t : TypeId) (t0 : Option TypeId) (l : List Int) (off : Nat) (m : List Int) : List Int :=
  match ti.d with
  | .sc _ => l.set off (rd m 0)
  | _ => cond (rootEq t0 t off) m (setWin l off ti.size m)

def TyD.isAgg : TyD → Bool
  | .struct _ | .arr _ _ => true
  | _ => false

def zeros (ti : TyI) : List Int := List.replicate ti.size 0

/-- The outcome of an operation that calls nothing: what must hold, and the state behind it. -/
inductive Out
  | bad
  | ok (b : Bool) (s : St)

def bigLen : Nat := 4294967296

def sameKind (j k : IntKind) : Bool := match j, k with
  | .i8, .i8 | .i16, .i16 | .i32, .i32 | .i64, .i64 | .u8, .u8 | .u16, .u16 | .u32, .u32 | .u64, .u64 => true
  | _, _ => false

/-- May the value lie in a variable of type u (without references)? -/
def fits (T : Tab) (u : TypeId) (v : V) : Bool :=
  match v with
  | .int k _ => match (T.at u).d with
    | .sc (.int j) => sameKind j k
    | _ => false
  | .bool _ => match (T.at u).d with
    | .sc .bool => true
    | _ => false
  | .agg t _ => Nat.beq t u
  | _ => false

def partsOf (s : St) : List (Nat × Operand) → List (Nat × V)
  | [] => []
  | (i, x) :: r => (i, s.ev x) :: partsOf s r

def placeAll (T : Tab) (place : Nat → Option (Nat × TypeId)) : List Int → List (Nat × V) → Option (List Int)
  | l, [] => some l
  | l, (i, v) :: r =>
    match place i, v.flat with
    | some (off, u), some m => cond (fits T u v && (isFlatTy T u && Nat.ble (off + (T.at u).size) l.length)) (placeAll T place (setAt l off m) r) none
    | _, _ => none

def fieldOf : List (Nat × TypeId) → Nat → Option (Nat × TypeId)
  | [], _ => none
  | f :: _, 0 => some f
  | _ :: r, n + 1 => fieldOf r n

def arith (op : BinOp) (k : IntKind) (a b : Int) : Option (Bool × V) :=
  match op with
  | .add => some (true, .int k (k.wrap (a + b)))
  | .sub => some (true, .int k (k.wrap (a - b)))
  | .mul => some (true, .int k (k.wrap (a * b)))
  | .quo => some (b != 0, .int k (k.wrap (a.tdiv b)))
  | .rem => some (b != 0, .int k (a.tmod b))
  | .and => some (true, .int k (k.wrap ((BitVec.ofInt k.bits a &&& BitVec.ofInt k.bits b).toNat : Int)))
  | .or => some (true, .int k (k.wrap ((BitVec.ofInt k.bits a ||| BitVec.ofInt k.bits b).toNat : Int)))
  | .xor => some (true, .int k (k.wrap ((BitVec.ofInt k.bits a ^^^ BitVec.ofInt k.bits b).toNat : Int)))
  | .andNot => some (true, .int k (k.wrap ((BitVec.ofInt k.bits a &&& ~~~ BitVec.ofInt k.bits b).toNat : Int)))
  | .eql => some (true, .bool (a == b))
  | .neq => some (true, .bool (a != b))
  | .lss => some (true, .bool (decide (a < b)))
  | .leq => some (true, .bool (decide (a ≤ b)))
  | .gtr => some (true, .bool (decide (a > b)))
  | .geq => some (true, .bool (decide (a ≥ b)))
  | _ => none

def shiftV (op : BinOp) (k : IntKind) (a b : Int) : Option (Bool × V) :=
  match op with
  | .shl => some (decide (0 ≤ b), .int k (k.wrap (a * 2 ^ (min b.toNat k.bits))))
  | .shr => some (decide (0 ≤ b), .int k (a.fdiv (2 ^ (min b.toNat k.bits))))
  | _ => none

def isBoolD : TyD → Bool
  | .sc .bool => true
  | _ => false

/-- May values of this type be compared cell by cell? -/
def eqTy (T : Tab) : Nat → TypeId → Bool
  | 0, _ => false
  | n + 1, t => match (T.at t).d with
    | .sc (.int _) => true
    | .struct fs => isFlatTy T t && fs.all fun f => eqTy T n f.2
    | _ => false

def binV (T : Tab) (ty : TypeId) (op : BinOp) (x y : V) : Option (Bool × V) :=
  match x, y with
  | .int k a, .int j b =>
    match op with
    | .shl | .shr => shiftV op k a b
    | _ => cond (sameKind k j) (arith op k a b) none
  | .bool a, .bool b =>
    cond (isBoolD (T.at ty).d) (match op with
    | .eql => some (true, .bool (a == b))
    | .neq => some (true, .bool (!(a == b)))
    | _ => none) none
  | .str a, .str b =>
    match op with
    | .eql => some (true, .bool (a.toList == b.toList))
    | .neq => some (true, .bool (!(a.toList == b.toList)))
    | .add => some (decide (a.size + b.size ≤ bigLen), .str (a ++ b))
    | _ => none
  | .agg t a, .agg u b =>
    cond (Nat.beq t ty && (Nat.beq u ty && eqTy T 5 ty)) (match op with
    | .eql => some (true, .bool (eqL a b))
    | .neq => some (true, .bool (!(eqL a b)))
    | _ => none) none
  | _, _ => none


def hiB (s : St) (n : Nat) : Option Operand → Option (Bool × Nat)
  | none => some (true, n)
  | some x => match s.ev x with
    | .int _ i => some (decide (0 ≤ i) && decide (i ≤ (n : Int)), i.toNat)
    | _ => none

/-- The bounds of a slice expression over something of length n: what must hold, from, to. -/
def bounds (s : St) (n : Nat) (lo hi : Option Operand) : Option (Bool × Nat × Nat) :=
  match hiB s n hi with
  | none => none
  | some (b, m) => match lo with
    | none => some (b, 0, m)
    | some x => match s.ev x with
      | .int _ i => some (b && (decide (0 ≤ i) && decide (i ≤ (m : Int))), i.toNat, m)
      | _ => none

def putOk (b : Bool) (s : St) (d : Nat) (v : V) : Out := .ok b (s.put d v)

def allocB (s : St) (d : Nat) (bk : Blk) (v : V) : Out :=
  match s.blk d with
  | some _ => .bad
  | none => .ok true ((s.setB d bk).put d v)

/-- The contents of a slice: the element type, the cells. -/
def contents (T : Tab) (s : St) : V → Option (TypeId × D)
  | .slv e l => some (e, .ints l)
  | .slr e l => some (e, .rows l)
  | .slw k e => match s.blk k with
    | some bk => some (e, bk.d)
    | none => none
  | .sl k off len e => match s.blk k with
    | some ⟨_, _, .ints l⟩ => some (e, .ints (win l off (len * (T.at e).size)))
    | _ => none
  | _ => none

def D.len : D → Nat
  | .ints l => l.length
  | .rows l => l.length
  | .vals l => l.length

def D.cat : D → D → Option D
  | .ints a, .ints b => some (.ints (a ++ b))
  | .rows a, .rows b => some (.rows (a ++ b))
  | _, _ => none

/-- How many elements a slice has. -/
def lenV (T : Tab) (s : St) (v : V) : Option Nat :=
  match v with
  | .sl _ _ len _ => some len
  | .nil => some 0
  | _ => match contents T s v with
    | some (e, .ints l) => some (cnt (T.at e).size l)
    | some (_, .rows l) => some l.length
    | _ => none

def addrOf (T : Tab) (s : St) (t : TypeId) (x : V) (i : Int) : Option (Bool × V) :=
  match (T.at t).d with
  | .arr n e =>
    let b := decide (0 ≤ i) && decide (i < (n : Int))
    cond (known T e) (match x with
    | .ptr k off u => cond (Nat.beq u t) (some (b, .ptr k (off + i.toNat * (T.at e).size) e)) none
    | .pvi _ l off u => cond (Nat.beq u t) (some (b, .pvi none l (off + i.toNat * (T.at e).size) e)) none
    | _ => none) none
  | .slice e =>
    match lenV T s x with
    | none => none
    | some n =>
      let b := decide (0 ≤ i) && decide (i < (n : Int))
      cond (known T e) (match x with
      | .slv u l => cond (Nat.beq u e) (some (b, .pvi none l (i.toNat * (T.at e).size) e)) none
      | .slr u l => cond (Nat.beq u e) (some (b, .pvr e l i.toNat)) none
      | .slw k u => cond (Nat.beq u e) (some (b, .ptr k (i.toNat * (T.at e).size) e)) none
      | .sl k off _ u => cond (Nat.beq u e) (some (b, .ptr k (off + i.toNat * (T.at e).size) e)) none
      | _ => none) none
  | _ => none

def loadV (T : Tab) (s : St) (t : TypeId) (p : V) : Option V :=
  match p with
  | .ptr k off u => cond (Nat.beq u t) (match s.blk k with
    | some ⟨t0, r, .ints l⟩ => cond (isFlatTy T t) (some (loadI (T.at t) t (Blk.root ⟨t0, r, .ints l⟩) l off)) none
    | some ⟨_, _, .vals vs⟩ => cond (known T t && !(T.at t).d.isAgg) vs[off]? none
    | some ⟨_, _, .rows l⟩ => match (T.at t).d with
      | .slice e => some (.slv e (rdr l off))
      | _ => none
    | none => none) none
  | .pvi t0 l off u => cond (Nat.beq u t && isFlatTy T t) (some (loadI (T.at t) t t0 l off)) none
  | .pvv vs off u => cond (Nat.beq u t && (known T t && !(T.at t).d.isAgg)) vs[off]? none
  | .pvr u l i => cond (Nat.beq u t) (match (T.at t).d with
    | .slice e => some (.slv e (rdr l i))
    | _ => none) none
  | _ => none

def minI (a b : Int) : Int := if b < a then b else a
def maxI (a b : Int) : Int := if b > a then b else a

/-- What copy makes of contents l, from place off on, of room for n elements. -/
def copyI (sz : Nat) (l : List Int) (off n : Nat) (q : List Int) : List Int := setWin l off (min (cnt sz q) n * sz) (q.take (min (cnt sz q) n * sz))

def rowsOf (T : Tab) (s : St) (e' : TypeId) : List (Nat × Operand) → Nat → Option (List (List Int) × List Nat)
  | [], _ => some ([], [])
  | (i, x) :: r, j => cond (Nat.beq i j) (match contents T s (s.ev x), rowsOf T s e' r (j + 1) with
      | some (e1, .ints l), some (q, ks) => cond (Nat.beq e1 e') (some (l :: q, match s.ev x with | .slw k _ => k :: ks | .sl k _ _ _ => k :: ks | _ => ks)) none
      | _, _ => none) none

def dropAll (s : St) : List Nat → St
  | [] => s
  | k :: r => dropAll ((s.kill k).drop k) r

def distinct : List Nat → Bool
  | [] => true
  | k :: r => !(r.any (Nat.beq k)) && distinct r

def isSliceOf (T : Tab) (t e : TypeId) : Bool :=
  match (T.at t).d with
  | .slice e' => Nat.beq e' e
  | _ => false

def isSliceD : TyD → Bool
  | .slice _ => true
  | _ => false

def isStrD : TyD → Bool
  | .str => true
  | _ => false

/-- Operations that call no function; d is the slot that is written. -/
def opR (T : Tab) (s : St) (d : Nat) (op : Op) : Out :=
  match op with
  | .move x | .assign x => putOk true s d (s.ev x)
  | .alloc t =>
    cond (isFlatTy T t) (allocB s d ⟨t, true, .ints (zeros (T.at t))⟩ (.ptr d 0 t))
      (match (T.at t).d with
      | .str => allocB s d ⟨t, true, .vals [.str .empty]⟩ (.ptr d 0 t)
      | .slice _ => allocB s d ⟨t, true, .vals [.nil]⟩ (.ptr d 0 t)
      | _ => .bad)
  | .build t ps =>
    match (T.at t).d with
    | .struct fs => cond (isFlatTy T t) (match placeAll T (fieldOf fs) (zeros (T.at t)) (partsOf s ps.toList) with
        | some l => putOk true s d (.agg t l)
        | none => .bad) .bad
    | .arr _ e => cond (isFlatTy T t) (match placeAll T (fun i => some (i * (T.at e).size, e)) (zeros (T.at t)) (partsOf s ps.toList) with
        | some l => putOk true s d (.agg t l)
        | none => .bad) .bad
    | _ => .bad
  | .load t p =>
    match loadV T s t (s.ev p) with
    | some v => putOk true s d v
    | none => .bad
  | .nilCheck x =>
    match s.ev x with
    | .ptr k off t => putOk true s d (.ptr k off t)
    | .pvi t0 l off t => putOk true s d (.pvi t0 l off t)
    | .pvv vs off t => putOk true s d (.pvv vs off t)
    | _ => .bad
  | .binOp op t x y _ =>
    match binV T t op (s.ev x) (s.ev y) with
    | some (b, v) => putOk b s d v
    | none => .bad
  | .unOp op _ x =>
    match op, s.ev x with
    | .neg, .int k n => putOk true s d (.int k (k.wrap (0 - n)))
    | .not, .bool b => putOk true s d (.bool (!b))
    | _, _ => .bad
  | .convert u t x =>
    match (T.at t).d, s.ev x with
    | .sc (.int k), .int _ n => cond (known T u) (putOk true s d (.int k (k.wrap n))) .bad
    | _, _ => .bad
  | .makeFunc (.func f) first cap => putOk true s d (.fn f (first.toList.map s.ev) (cap.toList.map s.ev))
  | .makeSlice t n c =>
    match (T.at t).d, s.ev n, s.ev c with
    | .slice e, .int _ i, .int _ j => cond (isFlatTy T e) (match s.blk d with
        | some _ => .bad
        | none => .ok (decide (0 ≤ i) && (decide (i ≤ (bigLen : Int)) && (i == j)))
            ((s.setB d ⟨e, false, .ints (List.replicate (i.toNat * (T.at e).size) 0)⟩).put d (.slw d e))) .bad
    | _, _, _ => .bad
  | .slice t x lo hi none =>
    match s.ev x with
    | .str b => match (T.at t).d, bounds s b.size lo hi with
      | .str, some (c, l, h) => putOk c s d (.str (b.extract l h))
      | _, _ => .bad
    | .slv e l => cond (isSliceOf T t e) (match bounds s (cnt (T.at e).size l) lo hi with
      | some (c, a, h) => putOk c s d (.slv e (win l (a * (T.at e).size) ((h - a) * (T.at e).size)))
      | none => .bad) .bad
    | .slw k e => cond (isSliceOf T t e && isFlatTy T e) (match lenV T s (.slw k e), s.blk k with
      | some n, some ⟨_, _, .ints _⟩ => match bounds s n lo hi with
        | some (c, a, h) => putOk c s d (.sl k (a * (T.at e).size) (h - a) e)
        | none => .bad
      | _, _ => .bad) .bad
    | .sl k off n e => cond (isSliceOf T t e) (match bounds s n lo hi with
      | some (c, a, h) => putOk c s d (.sl k (off + a * (T.at e).size) (h - a) e)
      | none => .bad) .bad
    | .ptr k off u => cond (Nat.beq u t && isFlatTy T t) (match (T.at t).d, s.blk k with
      | .arr n e, some ⟨_, _, .ints _⟩ => match bounds s n lo hi with
        | some (c, a, h) => cond (Nat.ble n bigLen) (putOk c s d (.sl k (off + a * (T.at e).size) (h - a) e)) .bad
        | none => .bad
      | _, _ => .bad) .bad
    | _ => .bad
  | .fieldAddr t x i =>
    match (T.at t).d with
    | .struct fs => match fieldOf fs i with
      | some (o, u) => cond (known T u) (match s.ev x with
        | .ptr k off t' => cond (Nat.beq t' t) (putOk true s d (.ptr k (off + o) u)) .bad
        | .pvi _ l off t' => cond (Nat.beq t' t) (putOk true s d (.pvi none l (off + o) u)) .bad
        | .pvv vs off t' => cond (Nat.beq t' t) (putOk true s d (.pvv vs (off + o) u)) .bad
        | _ => .bad) .bad
      | none => .bad
    | _ => .bad
  | .field t x i =>
    match (T.at t).d with
    | .struct fs => match fieldOf fs i with
      | some (o, u) => match s.ev x with
        | .agg t' l => cond (Nat.beq t' t && isFlatTy T u) (putOk true s d (loadI (T.at u) u none l o)) .bad
        | _ => .bad
      | none => .bad
    | _ => .bad
  | .indexAddr t x i =>
    match s.ev i with
    | .int _ n => match addrOf T s t (s.ev x) n with
      | some (b, v) => putOk b s d v
      | none => .bad
    | _ => .bad
  | .index t x i =>
    match s.ev i with
    | .int _ n => match s.ev x with
      | .agg t' l => cond (Nat.beq t' t) (match (T.at t).d with
        | .arr m e => cond (isFlatTy T e) (putOk (decide (0 ≤ n) && decide (n < (m : Int))) s d (loadI (T.at e) e none l (n.toNat * (T.at e).size))) .bad
        | _ => .bad) .bad
      | .str b => cond (isStrD (T.at t).d) (putOk (decide (0 ≤ n) && decide (n < (b.size : Int))) s d (.int .u8 (b.data.toList.getD n.toNat 0).toNat)) .bad
      | _ => .bad
    | _ => .bad
  | .extract x i =>
    match s.ev x with
    | .tup vs => match vs[i]? with
      | some v => putOk true s d v
      | none => .bad
    | _ => .bad
  | .box t x =>
    match s.ev x with
    | .str b => cond (!(known T t) || (T.at t).d.isAgg) .bad (allocB s d ⟨t, true, .vals [.str b]⟩ (.ptr d 0 t))
    | .slv e l => cond (!(known T t) || (T.at t).d.isAgg) .bad (allocB s d ⟨t, true, .vals [.slv e l]⟩ (.ptr d 0 t))
    | .slr e l => cond (!(known T t) || (T.at t).d.isAgg) .bad (allocB s d ⟨t, true, .vals [.slr e l]⟩ (.ptr d 0 t))
    | .cloB a g => cond (!(known T t) || (T.at t).d.isAgg) .bad (allocB s d ⟨t, true, .vals [.cloB a g]⟩ (.ptr d 0 t))
    | .cloL a e g => cond (!(known T t) || (T.at t).d.isAgg) .bad (allocB s d ⟨t, true, .vals [.cloL a e g]⟩ (.ptr d 0 t))
    | v => cond (fits T t v && isFlatTy T t) (match v.flat with
      | some l => allocB s d ⟨t, true, .ints l⟩ (.ptr d 0 t)
      | none => .bad) .bad
  | .buildSlice t n ps =>
    match (T.at t).d with
    | .slice e =>
      cond (isFlatTy T e)
        (match placeAll T (fun i => some (i * (T.at e).size, e)) (List.replicate (n * (T.at e).size) 0) (partsOf s ps.toList) with
        | some l => cond (Nat.ble (n * (T.at e).size) 16777216) (allocB s d ⟨e, false, .ints l⟩ (.slw d e)) .bad
        | none => .bad)
        (match (T.at e).d with
        | .slice e' => match rowsOf T s e' ps.toList 0 with
          | some (q, ks) => cond (Nat.beq q.length n && (distinct ks && (Nat.ble (n * (T.at e).size) 16777216 && Nat.beq (T.at e).size 1))) (allocB (dropAll s ks) d ⟨e, false, .rows q⟩ (.slw d e)) .bad
          | none => .bad
        | _ => .bad)
    | _ => .bad
  | .call c =>
    match c.callee, c.args.toList, c.argTypes.toList with
    | .builtin .len, [x], [t] => match s.ev x with
      | .str b => cond (isStrD (T.at t).d) (putOk true s d (.int .i64 b.size)) .bad
      | v => cond (isSliceD (T.at t).d) (match lenV T s v with
        | some n => putOk true s d (.int .i64 n)
        | none => .bad) .bad
    | .builtin .min, [x, y], _ => match s.ev x, s.ev y with
      | .int k a, .int _ b => putOk true s d (.int k (minI a b))
      | _, _ => .bad
    | .builtin .max, [x, y], _ => match s.ev x, s.ev y with
      | .int k a, .int _ b => putOk true s d (.int k (maxI a b))
      | _, _ => .bad
    | .builtin .append, [x, y], [t, u] => match contents T s (s.ev y) with
      | none => .bad
      | some (e', m) => match s.ev x with
        | .slw k e => cond (Nat.blt k s.n && (Nat.beq e e' && (!(V.has k (s.ev y)) && (isSliceOf T t e && isSliceD (T.at u).d)))) (match s.blk k with
          | some ⟨e0, r0, b⟩ => cond (Nat.beq e0 e && !r0) (match b.cat m with
            | some r => .ok (decide (b.len + m.len ≤ bigLen)) (((s.kill k).setB k ⟨e, false, r⟩).put d (.slw k e))
            | none => .bad) .bad
          | none => .bad) .bad
        | .sl k off n e => cond (Nat.blt k s.n && (Nat.beq e e' && (!(V.has k (s.ev y)) && (isSliceOf T t e && isSliceD (T.at u).d)))) (match s.blk k, m with
          | some ⟨e0, r0, .ints l⟩, .ints r => cond (Nat.beq e0 e && !r0) (.ok (decide (n * (T.at e).size + r.length ≤ bigLen))
              (((s.kill k).setB k ⟨e, false, .ints (win l off (n * (T.at e).size) ++ r)⟩).put d (.slw k e))) .bad
          | _, _ => .bad) .bad
        | _ => .bad
    | .builtin .copy, [x, y], [t, u] => match contents T s (s.ev y) with
      | some (e', .ints q) => match s.ev x with
        | .slw k e => cond (Nat.beq e e' && (isSliceOf T t e && isSliceD (T.at u).d)) (match s.blk k with
          | some ⟨t0, r, .ints l⟩ => cond (Nat.beq t0 e) (.ok true ((s.setB k ⟨t0, r, .ints (copyI (T.at e).size l 0 (cnt (T.at e).size l) q)⟩).put d (.int .i64 (min (cnt (T.at e).size q) (cnt (T.at e).size l) : Nat)))) .bad
          | _ => .bad) .bad
        | .sl k off n e => cond (Nat.beq e e' && (isSliceOf T t e && isSliceD (T.at u).d)) (match s.blk k with
          | some ⟨t0, r, .ints l⟩ => .ok true ((s.setB k ⟨t0, r, .ints (copyI (T.at e).size l off n q)⟩).put d (.int .i64 (min (cnt (T.at e).size q) n : Nat)))
          | _ => .bad) .bad
        | _ => .bad
      | _ => .bad
    | _, _, _ => .bad
  | _ => .bad

/-- Operations that write no slot. -/
def opN (T : Tab) (s : St) (op : Op) : Out :=
  match op with
  | .store t p x =>
    match s.ev p with
    | .ptr k off u => cond (Nat.beq u t && isFlatTy T t) (match s.blk k, (s.ev x).flat with
      | some ⟨t0, r, .ints l⟩, some m => cond (fits T t (s.ev x))
          (.ok true (s.setB k ⟨t0, r, .ints (storeI (T.at t) t (Blk.root ⟨t0, r, .ints l⟩) l off m)⟩)) .bad
      | _, _ => .bad) .bad
    | _ => .bad
  | .call c =>
    match c.callee, c.args.toList, c.argTypes.toList with
    | .builtin .clear, [x], [t] => match s.ev x with
      | .sl k off n e => cond (isSliceOf T t e) (match s.blk k with
        | some ⟨t0, r, .ints l⟩ => .ok true (s.setB k ⟨t0, r, .ints (setWin l off (n * (T.at e).size) (List.replicate (n * (T.at e).size) 0))⟩)
        | _ => .bad) .bad
      | _ => .bad
    | _, _, _ => .bad
  | _ => .bad

end Go.Ev
end

section
/- The evaluator's second part: calls, regions, code, functions. -/
namespace Go.Ev

/-- What a call gives: its result by value; of the slice that was handed over what is left of it. -/
abbrev Rs := V × Option (List Int)

abbrev Ora := FuncId → List V → (R : Type) → (Rs → Option R) → Option R

inductive Ex
  | normal
  | exit (id : Nat)
  | ret

/-- Loops, by the number of the block around them. -/
abbrev Lo := Nat → St → (R : Type) → (Ex → St → Option R) → Option R

/-- `mv`: the functions that are handed their first argument, a slice, to write to. -/
structure Cfg where
  T : Tab
  mv : List Nat
  ora : Ora
  lo : Lo

def memN (k : Nat) : List Nat → Bool
  | [] => false
  | j :: r => Nat.beq j k || memN k r

def kB : Rs → Option Bool
  | (.bool b, none) => some b
  | _ => none

def kL (e : TypeId) : Rs → Option (List Int)
  | (.slv e' l, none) => cond (Nat.beq e' e) (some l) none
  | _ => none

/-- A flat payload as a value of type t. -/
def unflat (T : Tab) (t : TypeId) (l : List Int) : V :=
  match (T.at t).d with
  | .slice e => .slv e l
  | _ => loadI (T.at t) t (some t) l 0

def snap1 (T : Tab) (s : St) : V → Option V
  | .bool b => some (.bool b)
  | .int k n => some (.int k n)
  | .str b => some (.str b)
  | .agg t l => some (.agg t l)
  | .slv e l => some (.slv e l)
  | .slr e l => some (.slr e l)
  | .cloB a g => some (.cloB a g)
  | .cloL a e g => some (.cloL a e g)
  | .pvi t0 l off t => some (.pvi t0 l off t)
  | .pvv vs off t => some (.pvv vs off t)
  | .slw k e => match contents T s (.slw k e) with
    | some (_, .ints l) => some (.slv e l)
    | some (_, .rows l) => some (.slr e l)
    | _ => none
  | .sl k off n e => match contents T s (.sl k off n e) with
    | some (_, .ints l) => some (.slv e l)
    | _ => none
  | .ptr k off t => match s.blk k with
    | some ⟨t0, r, .ints l⟩ => some (.pvi (Blk.root ⟨t0, r, .ints l⟩) l off t)
    | some ⟨_, _, .vals vs⟩ => some (.pvv vs off t)
    | _ => none
  | _ => none

def snapL (T : Tab) (s : St) : List V → Option (List V)
  | [] => some []
  | v :: r => match snap1 T s v, snapL T s r with
    | some a, some b => some (a :: b)
    | _, _ => none

/-- A value as it is handed to a parameter of type t. -/
def snap (C : Cfg) (s : St) (t : TypeId) (v : V) : Option V :=
  match v with
  | .nil => match (C.T.at t).d with
    | .slice e => cond (isFlatTy C.T e) (some (.slv e [])) none
    | _ => none
  | .fn f first cap => cond (memN f C.mv) none (match snapL C.T s first, snapL C.T s cap with
    | some a, some c => match (C.T.at t).d with
      | .fnB u => some (.cloB u fun l => C.ora f (a ++ (unflat C.T u l :: c)) Bool kB)
      | .fnL u e => some (.cloL u e fun l => C.ora f (a ++ (unflat C.T u l :: c)) (List Int) (kL e))
      | _ => none
    | _, _ => none)
  | v => snap1 C.T s v

def snapArgs (C : Cfg) (s : St) : List TypeId → List V → Option (List V)
  | _, [] => some []
  | t :: ts, v :: vs => match snap C s t v, snapArgs C s ts vs with
    | some a, some as => some (a :: as)
    | _, _ => none
  | [], _ :: _ => none

/-- A result's parts: a slice becomes block d. -/
def thawV (d : Nat) : V → Option (V × Option (TypeId × List Int))
  | .slv e l => some (.slw d e, some (e, l))
  | .bool b => some (.bool b, none)
  | .int k n => some (.int k n, none)
  | .str b => some (.str b, none)
  | .agg t l => some (.agg t l, none)
  | _ => none

def thawL (d : Nat) : List V → Option (List V × Option (TypeId × List Int))
  | [] => some ([], none)
  | v :: r => match thawV d v, thawL d r with
    | some (x, none), some (q, o) => some (x :: q, o)
    | some (x, some o), some (q, none) => some (x :: q, some o)
    | _, _ => none

def thawR (d : Nat) (v : V) : Option (V × Option (TypeId × List Int)) :=
  match v with
  | .tup vs => match thawL d vs with
    | some (q, o) => some (.tup q, o)
    | none => none
  | v => thawV d v

def thaw (s : St) (d : Nat) (v : V) : Option St :=
  match thawR d v with
  | none => none
  | some (x, none) => some (s.put d x)
  | some (x, some (e, l)) => match s.blk d with
    | none => some ((s.setB d ⟨e, false, .ints l⟩).put d x)
    | some _ => none

/-- What is handed to a closure whose parameter is of type a. -/
def argOf (T : Tab) (s : St) (a : TypeId) (v : V) : Option (List Int) :=
  match (T.at a).d with
  | .slice e => match contents T s v with
    | some (e', .ints l) => cond (Nat.beq e' e) (some l) none
    | _ => none
  | _ => cond (fits T a v && isFlatTy T a) v.flat none

def isFuncOp : Operand → Bool
  | .func _ => true
  | _ => false

/-! Pointers to whole variables that a function is handed to write through: which arguments, `mv` tells; by value `.tup [.agg t l]`. -/

def posM (mv : List Nat) (g i : Nat) : Bool := memN (g + 1000000 * (i + 1)) mv

def isM : V → Option (TypeId × List Int)
  | .tup [.agg t l] => some (t, l)
  | _ => none

def headSlv : List V → Option (TypeId × List Int × List V)
  | .slv e l :: vs => some (e, l, vs)
  | _ => none

def marks : Nat → List V → List (Nat × TypeId × List Int)
  | _, [] => []
  | i, v :: vs => match isM v with
    | some x => (i, x) :: marks (i + 1) vs
    | none => marks (i + 1) vs

/-- The arguments; the blocks that are handed over; the other arguments as they stand. -/
def snapM (C : Cfg) (s : St) (g : Nat) : Nat → List TypeId → List V → Option (List V × List Nat × List V)
  | _, _, [] => some ([], [], [])
  | i, t :: ts, v :: vs => match snapM C s g (i + 1) ts vs with
    | none => none
    | some (as, ks, us) => cond (posM C.mv g i)
      (match v with
      | .ptr k 0 u => match s.blk k with
        | some ⟨t0, true, .ints l⟩ => cond (Nat.beq t0 u) (some (.tup [.agg u l] :: as, k :: ks, us)) none
        | _ => none
      | _ => none)
      (match snap C s t v with
      | some a => match isM a with
        | some _ => none
        | none => some (a :: as, ks, v :: us)
      | none => none)
  | _, [], _ :: _ => none

def putM (T : Tab) : St → List Nat → List Int → Option St
  | s, [], _ => some s
  | s, k :: r, q => match s.blk k with
    | some ⟨t, b, .ints _⟩ => match r with
      | [] => some (s.setB k ⟨t, b, .ints q⟩)
      | _ => putM T (s.setB k ⟨t, b, .ints (q.take (T.at t).size)⟩) r (q.drop (T.at t).size)
    | _ => none

def evMoved (C : Cfg) (s : St) (g : Nat) (b : List V) (ts : List TypeId) (vs : List V) (d : Nat) {R : Type} (K : St → Option R) : Option R :=
  match b, snapM C s g 0 ts vs with
  | [], some (as, ks, us) => match headSlv as with
    | some _ => none
    | none => cond (distinct ks && ks.all fun k => !(V.hasL k us)) (C.ora g as R fun r => match r.2 with
      | some q => match thawR d r.1 with
        | some (x, none) => match putM C.T s ks q with
          | some s' => K (s'.put d x)
          | none => none
        | _ => none
      | none => none) none
  | _, _ => none

def evCall (C : Cfg) (s : St) (c : Call) (f : Operand) (d : Nat) {R : Type} (K : St → Option R) : Option R :=
  match s.ev f with
  | .fn g first cap =>
    match snapL C.T s first, snapL C.T s cap with
    | some a, some b =>
      cond (memN g C.mv)
        (cond (isFuncOp f) (match a, c.argTypes.toList, c.args.toList.map s.ev with
        | [], _ :: ts, .slw k e :: vs => match s.blk k, snapArgs C s ts vs with
          | some ⟨e0, false, .ints l⟩, some as =>
            cond (Nat.blt k s.n && (Nat.beq e0 e && !(V.hasL k vs || V.hasL k cap))) (C.ora g (.slv e l :: (as ++ b)) R fun r => match r.2 with
              | some l' => match thawR d r.1 with
                | some (x, none) => K ((s.setB k ⟨e, false, .ints l'⟩).put d x)
                | _ => none
              | none => match thaw ((s.kill k).drop k) d r.1 with
                | some s2 => K s2
                | none => none) none
          | _, _ => none
        | [], ts, vs => evMoved C s g b ts vs d K
        | _, _, _ => none) none)
        (match snapArgs C s c.argTypes.toList (c.args.toList.map s.ev) with
        | some as => C.ora g (a ++ (as ++ b)) R fun r => match r.2 with
          | some _ => none
          | none => match thaw s d r.1 with
            | some s2 => K s2
            | none => none
        | none => none)
    | _, _ => none
  | .cloB a g =>
    match c.args.toList.map s.ev with
    | [x] => match argOf C.T s a x with
      | some l => (g l).bind fun b => K (s.put d (.bool b))
      | none => none
    | _ => none
  | .cloL a e g =>
    match c.args.toList.map s.ev with
    | [x] => match argOf C.T s a x with
      | some l => (g l).bind fun q => match thaw s d (.slv e q) with
        | some s2 => K s2
        | none => none
      | none => none
    | _ => none
  | _ => none

def outK {R : Type} (o : Out) (K : St → Option R) : Option R :=
  match o with
  | .bad => none
  | .ok b s => cond b (K s) none

def isNilC : Operand → Bool
  | .const (.slice none 0 0) => true
  | _ => false

/-- A slice variable without a block: an empty block. -/
def asNil (T : Tab) (s : St) (d : Nat) (t : TypeId) (x : Operand) : Option St :=
  cond (isNilC x) (match (T.at t).d, s.blk d with
    | .slice e, none => cond (isFlatTy T e) (some ((s.setB d ⟨e, false, .ints []⟩).put d (.slw d e))) none
    | _, _ => none) none

def evOp (C : Cfg) (s : St) (o : Oper) {R : Type} (K : St → Option R) : Option R :=
  match o.dst with
  | none => outK (opN C.T s o.op) K
  | some d => cond (Nat.blt d s.n)
    (match o.op with
    | .pick c a b => match s.ev c with
      | .bool t => cond t (K (s.put d (s.ev a))) (K (s.put d (s.ev b)))
      | _ => none
    | .call c => match c.callee with
      | .value f => evCall C s c f d K
      | _ => outK (opR C.T s d o.op) K
    | .assign x => match asNil C.T s d o.type x with
      | some s' => K s'
      | none => K (s.put d (s.ev x))
    | _ => outK (opR C.T s d o.op) K) none

def putD (s : St) (d : Option Tmp) (v : V) : St := match d with | some t => s.put t v | none => s

/-- The operations of a region, in the text's order. -/
def evOps (C : Cfg) (ops : List Oper) : List Oper → St → {R : Type} → (St → Option R) → Option R
  | [], s, _, K => K s
  | o :: r, s, _, K =>
    match o.guard with
    | none => evOp C s o fun s' => evOps C ops r s' K
    | some (j, want) => match (ops[j]?).bind (·.dst) with
      | none => none
      | some dj => match s.get dj with
        | .bool b => match want with
          | true => cond b (evOp C (s.put dj (.bool true)) o fun s' => evOps C ops r s' K) (evOps C ops r (putD (s.put dj (.bool false)) o.dst .skip) K)
          | false => cond b (evOps C ops r (putD (s.put dj (.bool true)) o.dst .skip) K) (evOp C (s.put dj (.bool false)) o fun s' => evOps C ops r s' K)
        | .skip => evOps C ops r (putD s o.dst .skip) K
        | _ => none

/-! ## Regions that draw their order -/

def quietOp (mv : List Nat) (T : Tab) : Op → Bool
  | .move _ | .pick .. | .alloc _ | .build .. | .load .. | .nilCheck _ | .binOp .. | .unOp .. | .convert .. | .makeFunc .. | .slice .. | .fieldAddr .. | .field .. | .indexAddr .. | .index .. | .extract .. | .box .. => true
  | .buildSlice t _ _ => match (T.at t).d with
    | .slice e => isFlatTy T e
    | _ => false
  | .call c => match c.callee with
    | .builtin .len | .builtin .min | .builtin .max => true
    | .value (.func f) => !(memN f mv)
    | .value (.tmp _) => true
    | _ => false
  | _ => false

def tmpsOf (l : List Operand) : List Tmp := l.filterMap fun | .tmp t => some t | _ => none

def readsOf (ops : List Oper) (o : Oper) : List Tmp :=
  tmpsOf o.op.operands.toList ++ (match o.guard with
  | some (j, _) => ((ops[j]?).bind (·.dst)).toList
  | none => [])

def edgesOf (o : Oper) : List Nat := (o.after.toList.filter fun e => Region.binds .any e).map (·.on)

/-- How many operations stand ahead of the first that is not quiet. -/
def quietLen (mv : List Nat) (T : Tab) : List Oper → Nat
  | [] => 0
  | o :: r => cond (quietOp mv T o.op && o.dst.isSome) (quietLen mv T r + 1) 0

def upTo (n : Nat) : List Nat := List.range n

def allIx {α : Type} (p : Nat → α → Bool) : Nat → List α → Bool
  | _, [] => true
  | i, x :: r => p i x && allIx p (i + 1) r

def allBelow (p : Nat → Bool) : Nat → Bool
  | 0 => true
  | n + 1 => allBelow p n && p n

def dstIs (o : Oper) (t : Nat) : Bool :=
  match o.dst with
  | some u => Nat.beq u t
  | none => false

def maskOf : List Nat → Nat
  | [] => 0
  | j :: r => Nat.lor (Nat.shiftLeft 1 j) (maskOf r)

/-- One look through the operations that wait: those that may go, those that wait on, what is done. -/
def ordPass : List (Nat × Nat) → Nat → List Nat × List (Nat × Nat) × Nat
  | [], done => ([], [], done)
  | (i, m) :: r, done => cond (Nat.beq (Nat.land m done) m)
    (match ordPass r (Nat.lor (Nat.shiftLeft 1 i) done) with | (a, b, d) => (i :: a, b, d))
    (match ordPass r done with | (a, b, d) => (a, (i, m) :: b, d))

def ordGo : Nat → List (Nat × Nat) → Nat → List Nat
  | 0, _, _ => []
  | n + 1, l, done => match l with
    | [] => []
    | l => match ordPass l done with | (a, b, d) => a ++ ordGo n b d

def maskIx : Nat → List Oper → List (Nat × Nat)
  | _, [] => []
  | i, o :: r => (i, maskOf (edgesOf o)) :: maskIx (i + 1) r

/-- An order of the operations that their edges allow. -/
def ordOf (ops : List Oper) : List Nat := ordGo ops.length (maskIx 0 ops) 0

def posOf (i : Nat) : List Nat → Nat
  | [] => 0
  | j :: r => cond (Nat.beq j i) 0 (posOf i r + 1)

def pick (ops : List Oper) : List Nat → List Oper
  | [] => []
  | i :: r => match ops[i]? with
    | some o => o :: pick ops r
    | none => pick ops r

def edP (ord : List Nat) (o : Oper) : List Nat := (edgesOf o).map fun i => posOf i ord

/-- Operations that touch nothing but slots, and may go as soon as they can. -/
def pureOp : Op → Bool
  | .extract _ _ => true
  | .move _ => true
  | _ => false

def apartB (ops : List Oper) (x y : Oper) : Bool :=
  (match x.dst with
  | some d => !(memN d (readsOf ops y)) && !(dstIs y d)
  | none => true) && (match y.dst with
  | some d => !(memN d (readsOf ops x))
  | none => true)

def pureFree (ops : List Oper) (i : Nat) (o : Oper) : Bool :=
  (match o.guard with
  | none => true
  | some _ => false) && (pureOp o.op && (o.dst.isSome && allIx (fun j p => Nat.beq j i || (memN i (edgesOf p) || (memN j (edgesOf o) || apartB ops o p))) 0 ops))

def notSelect (o : Oper) : Bool :=
  match o.op with
  | .select .. => false
  | _ => true

/-- Is j ahead of an operation, itself or through at most n others? -/
def ancN (po : List Oper) (ord : List Nat) : Nat → Oper → Nat → Bool
  | 0, o, j => memN j (edP ord o)
  | n + 1, o, j => memN j (edP ord o) || (edP ord o).any fun e => Nat.blt j e && match po[e]? with
    | some p => ancN po ord n p j
    | none => false

def ancB (po : List Oper) (ord : List Nat) (o : Oper) (j : Nat) : Bool := ancN po ord 10 o j

def lateB (ops po : List Oper) (ord : List Nat) (o : Oper) (j : Nat) : Bool :=
  match po[j]? with
  | some p => pureFree ops (ord.getD j 0) p && (edP ord p).all fun e => ancB po ord o e
  | none => false

/-- ord runs through all operations; of the quiet ones at its head what one reads that another writes is ordered; no two write one slot. -/
def drawOK (mv : List Nat) (T : Tab) (ops : List Oper) (ord : List Nat) : Bool :=
  let po := pick ops ord
  let m := quietLen mv T po
  let q := po.take m
  (Nat.beq ord.length ops.length && (allIx (fun p i => Nat.blt i ops.length && Nat.beq (posOf i ord) p) 0 ord && allBelow (fun i => Nat.blt (posOf i ord) ord.length && Nat.beq (ord.getD (posOf i ord) 0) i) ops.length)) &&
  (allIx (fun p o => (edP ord o).all fun j => Nat.blt j p) 0 po &&
  (allIx (fun i o => (readsOf ops o).all fun t => allIx (fun j p => !(dstIs p t) || (memN j (edP ord o) || memN i (edP ord p))) 0 q) 0 q &&
  (allIx (fun i o => allIx (fun j p => Nat.beq i j || (match o.dst with | some t => !(dstIs p t) | none => true)) 0 q) 0 q &&
  (allIx (fun i o => Nat.blt i m || allBelow (fun j => ancB po ord o j || lateB ops po ord o j) i) 0 po && allIx (fun _ o => notSelect o) 0 ops))))

/-! ## Code -/

/-! At a loop's head: the slots that are kept, and their blocks; slices anew from their first cell on, their blocks under the slots' own names. -/

def idV : V → Option Nat
  | .slw k _ => some k
  | .ptr k _ _ => some k
  | .sl k _ _ _ => some k
  | _ => none

def plainV : V → V
  | .tup _ => .undef
  | .fn f a b => match a, b with
    | [], [] => .fn f [] []
    | _, _ => .undef
  | v => v

def restrictE (s : St) : List Nat → List (Nat × V)
  | [] => []
  | t :: r => (t, plainV (s.get t)) :: restrictE s r

def addB (s : St) (k : Nat) (own : List (Nat × Option Blk)) : List (Nat × Option Blk) :=
  match look none own k with
  | some _ => own
  | none => (k, s.blk k) :: own

def restrictB (s : St) : List Nat → List (Nat × Option Blk)
  | [] => []
  | t :: r => match idV (s.get t) with
    | some k => addB s k (restrictB s r)
    | none => restrictB s r

/-- The blocks that are kept; one that was handed over is always kept. -/
def ownR (s : St) (ks : List Nat) : List (Nat × Option Blk) :=
  match s.blk s.n with
  | some _ => addB s s.n (restrictB s ks)
  | none => restrictB s ks

def restrict (ks : List Nat) (s : St) : St := ⟨s.n, restrictE s ks, ownR s ks⟩

def othersHave (s : St) (k t : Nat) : List Nat → Bool
  | [] => false
  | u :: r => (!(Nat.beq u t) && V.has k (s.get u)) || othersHave s k t r

def window (T : Tab) (ks : List Nat) (s : St) (t : Nat) : St :=
  match s.get t with
  | .sl k off n e => cond (othersHave s k t ks || Nat.ble s.n k) (s.put t .undef) (match s.blk k with
    | some ⟨e0, r0, .ints l⟩ => cond (Nat.beq e0 e && !r0) (((s.kill k).setB k ⟨e, false, .ints (win l off (n * (T.at e).size))⟩).put t (.slw k e)) (s.put t .undef)
    | _ => s.put t .undef)
  | _ => s

def rename (ks : List Nat) (s : St) (t : Nat) : St :=
  match s.get t with
  | .slw k e => cond ((Nat.beq k t || othersHave s k t ks) || (Nat.ble s.n k || Nat.ble s.n t)) s (match s.blk k, s.blk t with
    | some bk, none => (((s.kill k).drop k).setB t bk).put t (.slw t e)
    | _, _ => s)
  | _ => s

def heads (T : Tab) (ks : List Nat) (s : St) : List Nat → St
  | [] => s
  | t :: r => heads T ks (rename ks (window T ks s t) t) r

def canon (T : Tab) (ks : List Nat) (s : St) : St := restrict ks (heads T ks (restrict ks s) ks)

/-! A variable that is made anew: its old block is forgotten, where no other slot leads to it. -/

def aliveElse (d : Nat) : List (Nat × V) → Bool
  | [] => false
  | (i, v) :: r => (!(Nat.beq i d) && V.has d v) || aliveElse d r

def freeB (s : St) (d : Nat) : St :=
  match s.blk d with
  | some _ => cond (aliveElse d s.env) s ((s.put d .undef).drop d)
  | none => s

def isAlloc : Op → Bool
  | .alloc _ => true
  | _ => false

def frees : List Oper → St → St
  | [], s => s
  | o :: r, s => match o.dst with
    | some d => cond (isAlloc o.op) (frees r (freeB s d)) (frees r s)
    | none => frees r s

def evCode (C : Cfg) {R : Type} : Code → Nat → St → (Ex → St → Option R) → Option R
  | .skip, _, s, K => K .normal s
  | .region _ ops draw, _, s, K => cond draw
      (cond (drawOK C.mv C.T ops.toList (ordOf ops.toList)) (evOps C ops.toList (pick ops.toList (ordOf ops.toList)) s (K .normal)) none)
      (evOps C ops.toList ops.toList (frees ops.toList s) (K .normal))
  | .seq a b, lab, s, K => evCode C a lab s fun e s' => match e with
    | .normal => evCode C b lab s' K
    | e => K e s'
  | .cond c a b, lab, s, K => match s.ev c with
    | .bool t => cond t (evCode C a lab s K) (evCode C b lab s K)
    | _ => none
  | .block id c, _, s, K => evCode C c id s fun e s' => match e with
    | .exit j => cond (Nat.beq j id) (K .normal s') (K (.exit j) s')
    | e => K e s'
  | .loop _, lab, s, K => C.lo lab s R K
  | .exit id, _, s, K => K (.exit id) s
  | .ret, _, s, K => K .ret s
  | _, _, _, _ => none

/-- The loops of a code, but for those within loops. -/
def loopsOf : Code → Nat → List (Nat × Code)
  | .loop c, lab => [(lab, c)]
  | .seq a b, lab => loopsOf a lab ++ loopsOf b lab
  | .cond _ a b, lab => loopsOf a lab ++ loopsOf b lab
  | .block id c, _ => loopsOf c id
  | _, _ => []

def loopF {Pm R : Type} (step : (Pm → Option R) → Pm → Option R) : Nat → Pm → Option R
  | 0, _ => none
  | n + 1, p => step (loopF step n) p

/-! ## Functions -/

def numb : Nat → List V → List (Nat × V)
  | _, [] => []
  | i, v :: vs => (i, v) :: numb (i + 1) vs

def entE (n : Nat) : Nat → List V → List (Nat × V)
  | _, [] => []
  | i, v :: vs => (i, match isM v with | some (t, _) => .ptr (n + i) 0 t | none => v) :: entE n (i + 1) vs

def entB (n : Nat) : List (Nat × TypeId × List Int) → List (Nat × Option Blk)
  | [] => []
  | (i, t, l) :: r => (n + i, some ⟨t, true, .ints l⟩) :: entB n r

def keysM (n : Nat) : List (Nat × TypeId × List Int) → List Nat
  | [] => []
  | (i, _) :: r => (n + i) :: keysM n r

def enter (n : Nat) (mvd : Bool) (args : List V) : St :=
  match mvd with
  | false => ⟨n, numb 0 args, []⟩
  | true => match headSlv args with
    | some (e, l, vs) => ⟨n, (0, .slw n e) :: numb 1 vs, [(n, some ⟨e, false, .ints l⟩)]⟩
    | none => ⟨n, entE n 0 args, entB n (marks 0 args)⟩

/-- A result by value. -/
def result (T : Tab) (s : St) (t : TypeId) (v : V) : Option V :=
  match v with
  | .bool b => some (.bool b)
  | .int k n => some (.int k n)
  | .str b => some (.str b)
  | .agg u l => some (.agg u l)
  | .nil => match (T.at t).d with
    | .slice e => cond (isFlatTy T e) (some (.slv e [])) (some (.slr e []))
    | _ => none
  | .slw k e => match s.blk k with
    | some ⟨_, _, .ints l⟩ => some (.slv e l)
    | some ⟨_, _, .rows l⟩ => some (.slr e l)
    | _ => none
  | .sl k off n e => match s.blk k with
    | some ⟨e0, _, .ints l⟩ => cond (Nat.beq e0 e) (some (.slv e (win l off (n * (T.at e).size)))) none
    | _ => none
  | _ => none

def resVar (T : Tab) (s : St) : ResultVar → Option V
  | .tmp t => some (s.get t)
  | .cell p t => loadV T s t (s.get p)

def results (T : Tab) (s : St) : List ResultVar → List TypeId → Option (List V)
  | [], _ => some []
  | r :: rs, t :: ts => match resVar T s r with
    | some v => match result T s t v, results T s rs ts with
      | some a, some as => some (a :: as)
      | _, _ => none
    | none => none
  | _, _ => none

/-- What is given back of a slice that was handed over, if no result holds it. -/
def backOf (T : Tab) (s : St) (rs : List ResultVar) : Option (List Int) :=
  cond (rs.any fun r => match resVar T s r with
    | some v => V.has s.n v
    | none => true) none (match s.blk s.n with
    | some ⟨_, _, .ints l⟩ => some l
    | _ => none)

def backP (s : St) : List Nat → Option (List Int)
  | [] => some []
  | k :: r => match s.blk k with
    | some ⟨_, _, .ints l⟩ => match r with
      | [] => some l
      | _ => match backP s r with
        | some q => some (l ++ q)
        | none => none
    | _ => none

def backF (T : Tab) (fn : Func) (mvd : Bool) (args : List V) (s : St) : Option (List Int) :=
  cond mvd (match headSlv args with
  | some _ => backOf T s fn.results.toList
  | none => cond (Nat.beq s.n fn.ntmps) (backP s (keysM fn.ntmps (marks 0 args))) none) none

def fin (T : Tab) (fn : Func) (mvd : Bool) (args : List V) {R : Type} (K : Rs → Option R) (s : St) : Option R :=
  match results T s fn.results.toList fn.resultTypes.toList with
  | some vs => match vs with
    | [v] => K (v, backF T fn mvd args s)
    | vs => K (.tup vs, backF T fn mvd args s)
  | none => none

def runF (C : Cfg) (fn : Func) (mvd : Bool) (args : List V) {R : Type} (K : Rs → Option R) : Option R :=
  match fn.body with
  | some c => cond (Nat.ble args.length fn.ntmps) (evCode C c 0 (enter fn.ntmps mvd args) fun e s => match e with
      | .exit _ => none
      | _ => fin C.T fn mvd args K s) none
  | none => none

end Go.Ev
end

section
/- What the evaluator's states say of the kit's worlds. -/
namespace Go.Ev
open Go.RowKit (Below)

/-! ## The table of types is right -/

def zipV : List SK → List Int → List Value
  | k :: ks, n :: l => k.val n :: zipV ks l
  | _, _ => []

structure TyOK (P : Program) (T : Tab) (t : TypeId) : Prop where
  desc : match (T.at t).d with
    | .sc (.int k) => P.underlying t = some (.int k)
    | .sc .bool => P.underlying t = some .bool
    | .str => P.underlying t = some .string
    | .struct fs => ∃ F, P.underlying t = some (.struct F) ∧ F.toList.map (fun f => (f.offset, f.type)) = fs
    | .arr n e => P.underlying t = some (.array n e)
    | .slice e => P.underlying t = some (.slice e)
    | .ptr e => P.underlying t = some (.pointer e)
    | .map k e => P.underlying t = some (.map k e)
    | .fnB _ => ∃ a b c, P.underlying t = some (.func a b c)
    | .fnL _ _ => ∃ a b c, P.underlying t = some (.func a b c)
    | .other => True
  info : (T.at t).d matches .other ∨ ∃ ti z, P.info? t = some ti ∧ ti.size = (T.at t).size ∧ ti.bytes ≤ 1024 ∧ ti.zero = some z ∧ z.cells.size = (T.at t).size ∧ 0 < (T.at t).size ∧
    (isFlatTy T t = true → z.cells.toList = zipV (T.at t).ks (zeros (T.at t))) ∧ ((T.at t).d matches .str → z = .string .empty) ∧ (∀ e, (T.at t).d = .slice e → z = .slice none 0 0)
  flat : isFlatTy T t = true → (T.at t).ks.length = (T.at t).size ∧ (match (T.at t).d with
    | .sc s => (T.at t).ks = [s]
    | .struct fs => ∀ i o u, fieldOf fs i = some (o, u) → isFlatTy T u = true ∧ o + (T.at u).size ≤ (T.at t).size ∧ ∀ j, j < (T.at u).size → (T.at t).ks[o + j]? = (T.at u).ks[j]?
    | .arr n e => isFlatTy T e = true ∧ (T.at t).size = n * (T.at e).size ∧ ∀ i j, i < n → j < (T.at e).size → (T.at t).ks[i * (T.at e).size + j]? = (T.at e).ks[j]?
    | _ => False)

def TabOK (P : Program) (T : Tab) : Prop := ∀ t, TyOK P T t

/-! ## Flat values -/

/-- The kind of cell j in rows of the kinds ks. -/
def kindAt (ks : List SK) (j : Nat) : SK := ks.getD (j % ks.length) .bool

theorem rd_cons_zero (a : Int) (l : List Int) : rd (a :: l) 0 = a := rfl
theorem rd_cons_succ (a : Int) (l : List Int) (j : Nat) : rd (a :: l) (j + 1) = rd l j := rfl

theorem zipV_getElem? (ks : List SK) : ∀ (l : List Int) (j : Nat), ks.length = l.length → j < l.length → (zipV ks l)[j]? = some ((ks.getD j .bool).val (rd l j)) := by
  induction ks with
  | nil => intro l j h hj; cases l <;> simp_all
  | cons k ks ih =>
    intro l j h hj
    cases l with
    | nil => simp at hj
    | cons n l =>
      cases j with
      | zero => rfl
      | succ j =>
        have := ih l j (by simpa using h) (by simpa using hj)
        simpa [zipV, rd_cons_succ] using this

theorem zipV_length (ks : List SK) : ∀ (l : List Int), ks.length = l.length → (zipV ks l).length = l.length := by
  induction ks with
  | nil => intro l h; cases l <;> simp_all [zipV]
  | cons k ks ih =>
    intro l h
    cases l with
    | nil => simp at h
    | cons n l => simp [zipV, ih l (by simpa using h)]

theorem getD_of_getElem? {α : Type} {a b : List α} {i j : Nat} (h : a[i]? = b[j]?) (d : α) : a.getD i d = b.getD j d := by
  simp [List.getD_eq_getElem?_getD, h]

theorem kindAt_lt {ks : List SK} {j : Nat} (h : j < ks.length) : kindAt ks j = ks.getD j .bool := by
  unfold kindAt; rw [Nat.mod_eq_of_lt h]

theorem kindAt_add {ks : List SK} (i j : Nat) : kindAt ks (i * ks.length + j) = kindAt ks j := by
  unfold kindAt; rw [Nat.add_comm, Nat.add_mul_mod_self_right]

/-- The cells of a flat payload: from address (b, o), n cells, those of l from off on, of the kinds ks (in rows). -/
def CellsAt (w : World) (b o : Nat) (ks : List SK) (l : List Int) (off n : Nat) : Prop :=
  ∀ j, j < n → w.cell? ⟨b, o + j, none⟩ = some ((kindAt ks j).val (rd l (off + j)))

/-- A value without references. -/
def FV (T : Tab) : V → Value → Prop
  | .int k n, u => u = .int k n
  | .bool b, u => u = .bool b
  | .str s, u => u = .string s
  | .agg t l, u => (T.at t).d.isAgg = true ∧ isFlatTy T t = true ∧ l.length = (T.at t).size ∧ ∃ arr : Array Value, u = .agg arr ∧ arr.toList = zipV (T.at t).ks l
  | _, _ => False

/-- A slice of flat elements, by value. -/
def SV (T : Tab) (w : World) (Fr : Nat → Prop) (e : TypeId) (l : List Int) (u : Value) : Prop :=
  isFlatTy T e = true ∧ ∃ (a : Option Addr) (n cap : Nat), u = .slice a n cap ∧ l.length = n * (T.at e).size ∧ n ≤ cap ∧ (n = 0 ∨ ∃ b o, a = some ⟨b, o, none⟩ ∧ Fr b ∧ CellsAt w b o (T.at e).ks l 0 l.length)

/-- An argument of a closure. -/
def AV (T : Tab) (w : World) (Fr : Nat → Prop) (a : TypeId) (l : List Int) (u : Value) : Prop :=
  match (T.at a).d with
  | .slice e => SV T w Fr e l u
  | .sc s => isFlatTy T a = true ∧ ∃ n, l = [n] ∧ u = s.val n
  | _ => FV T (.agg a l) u

/-- Later worlds: what stands still has stayed. -/
def Later (w : World) (Fr : Nat → Prop) (w' : World) (Fr' : Nat → Prop) : Prop := ∀ b, Fr b → Fr' b ∧ w'.heap[b]? = w.heap[b]?

theorem Later.refl (w : World) (Fr : Nat → Prop) : Later w Fr w Fr := fun _ h => ⟨h, rfl⟩
theorem Later.trans {w w' w'' : World} {Fr Fr' Fr'' : Nat → Prop} (h : Later w Fr w' Fr') (k : Later w' Fr' w'' Fr'') : Later w Fr w'' Fr'' :=
  fun b hb => ⟨(k b (h b hb).1).1, (k b (h b hb).1).2.trans (h b hb).2⟩

def HasBody (P : Program) (f : FuncId) : Prop := ∃ fn, P.funcs[f]? = some fn ∧ fn.body.isSome = true ∧ fn.name ≠ "runtime.NumGoroutine"

/-- The value of a function that answers a bool of one argument. -/
def CloB (P : Program) (T : Tab) (w : World) (Fr : Nat → Prop) (a : TypeId) (g : List Int → Option Bool) (u : Value) : Prop :=
  ∃ f first cap, u = .func (.func f) first cap ∧
    ∀ w' Fr' l r arg, Later w Fr w' Fr' → (∀ b, Fr' b → b < w'.heap.size) → g l = some r → AV T w' Fr' a l arg →
      HasBody P f ∧ Calls P f (first ++ #[arg] ++ cap) w' fun e w'' => e = .returned (.bool r) ∧ Below w'.heap.size w' w''

/-- A slice that a call has made, by value: nobody else has its block. -/
def OwnS (T : Tab) (w' : World) (base : Nat) (M : Nat → Prop) (e : TypeId) (d : D) (u : Value) (cells : Array Value → Nat → Prop) : Prop :=
  ∃ (a : Option Addr) (n cap : Nat), u = .slice a n cap ∧ d.len = n * (T.at e).size ∧ n ≤ cap ∧ cap ≤ maxLen ∧
    ((n = 0 ∧ cap = 0) ∨ ∃ b o arr, a = some ⟨b, o, none⟩ ∧ (base ≤ b ∨ M b) ∧ w'.heap[b]? = some (.cells arr e (0, 0)) ∧ o + cap * (T.at e).size ≤ arr.size ∧ cells arr o)

def IntsIn (ks : List SK) (l : List Int) (arr : Array Value) (o : Nat) : Prop := ∀ j, j < l.length → arr[o + j]? = some ((kindAt ks j).val (rd l j))

def CloL (P : Program) (T : Tab) (w : World) (Fr : Nat → Prop) (a e : TypeId) (g : List Int → Option (List Int)) (u : Value) : Prop :=
  ∃ f first cap, u = .func (.func f) first cap ∧
    ∀ w' Fr' l r arg, Later w Fr w' Fr' → (∀ b, Fr' b → b < w'.heap.size) → g l = some r → AV T w' Fr' a l arg →
      HasBody P f ∧ Calls P f (first ++ #[arg] ++ cap) w' fun en w'' => ∃ v, en = .returned v ∧ Below w'.heap.size w' w'' ∧ isFlatTy T e = true ∧ OwnS T w'' w'.heap.size (fun _ => False) e (.ints r) v (IntsIn (T.at e).ks r)

/-- Values by value. -/
inductive BV (P : Program) (T : Tab) (w : World) (Fr : Nat → Prop) : V → Value → Prop
  | undef (u : Value) : BV P T w Fr .undef u
  | skip : BV P T w Fr .skip Go.undef
  | nil : BV P T w Fr .nil (.slice none 0 0)
  | flat (v : V) (u : Value) : FV T v u → BV P T w Fr v u
  | slv (e : TypeId) (l : List Int) (u : Value) : SV T w Fr e l u → BV P T w Fr (.slv e l) u
  | slr (e e' : TypeId) (xss : List (List Int)) (a : Option Addr) (n cap : Nat) (us : Nat → Value) (b o : Nat) : (T.at e).d = .slice e' → isFlatTy T e = false → (T.at e).size = 1 → n = xss.length →
      (n = 0 ∨ (a = some ⟨b, o, none⟩ ∧ Fr b ∧ (∀ j, j < n → w.cell? ⟨b, o + j, none⟩ = some (us j)) ∧ ∀ j, j < n → SV T w Fr e' (rdr xss j) (us j))) → BV P T w Fr (.slr e xss) (.slice a n cap)
  | pvi (t0 : Option TypeId) (l : List Int) (off : Nat) (t : TypeId) (b o : Nat) : Fr b → isFlatTy T t = true → off + (T.at t).size ≤ l.length → CellsAt w b o (T.at t).ks l off (T.at t).size →
      (t0 = some t → off = 0 → l.length = (T.at t).size) → BV P T w Fr (.pvi t0 l off t) (.pointer (some ⟨b, o, none⟩))
  | pvv (vs : List V) (off : Nat) (t : TypeId) (b o : Nat) (us : Nat → Value) : Fr b → (∀ j v, vs[off + j]? = some v → w.cell? ⟨b, o + j, none⟩ = some (us j)) → (∀ j v, vs[off + j]? = some v → BV P T w Fr v (us j)) →
      BV P T w Fr (.pvv vs off t) (.pointer (some ⟨b, o, none⟩))
  | pvr (e e' : TypeId) (xss : List (List Int)) (i : Nat) (b o : Nat) (u : Value) : (T.at e).d = .slice e' → Fr b → w.cell? ⟨b, o, none⟩ = some u → SV T w Fr e' (rdr xss i) u →
      BV P T w Fr (.pvr e xss i) (.pointer (some ⟨b, o, none⟩))
  | cloB (a : TypeId) (g : List Int → Option Bool) (u : Value) : CloB P T w Fr a g u → BV P T w Fr (.cloB a g) u
  | cloL (a e : TypeId) (g : List Int → Option (List Int)) (u : Value) : CloL P T w Fr a e g u → BV P T w Fr (.cloL a e g) u

theorem cell_later {w w' : World} {b : Nat} (h : w'.heap[b]? = w.heap[b]?) (o : Nat) : w'.cell? ⟨b, o, none⟩ = w.cell? ⟨b, o, none⟩ := World.cell?_of_block (w := w) (a := ⟨b, o, none⟩) h

theorem SV.later {T : Tab} {w w' : World} {Fr Fr' : Nat → Prop} {e : TypeId} {l : List Int} {u : Value} (h : SV T w Fr e l u) (hl : Later w Fr w' Fr') : SV T w' Fr' e l u := by
  obtain ⟨hf, a, n, cap, hu, hn, hnc, hc⟩ := h
  refine ⟨hf, a, n, cap, hu, hn, hnc, hc.imp id ?_⟩
  rintro ⟨b, o, ha, hb, hcell⟩
  exact ⟨b, o, ha, (hl b hb).1, fun j hj => (cell_later (hl b hb).2 _).trans (hcell j hj)⟩

theorem CloB.later {P : Program} {T : Tab} {w w' : World} {Fr Fr' : Nat → Prop} {a : TypeId} {g : List Int → Option Bool} {u : Value} (h : CloB P T w Fr a g u) (hl : Later w Fr w' Fr') : CloB P T w' Fr' a g u := by
  obtain ⟨f, first, cap, hu, h⟩ := h
  exact ⟨f, first, cap, hu, fun w'' Fr'' l r arg h1 => h w'' Fr'' l r arg (hl.trans h1)⟩

theorem CloL.later {P : Program} {T : Tab} {w w' : World} {Fr Fr' : Nat → Prop} {a e : TypeId} {g : List Int → Option (List Int)} {u : Value} (h : CloL P T w Fr a e g u) (hl : Later w Fr w' Fr') : CloL P T w' Fr' a e g u := by
  obtain ⟨f, first, cap, hu, h⟩ := h
  exact ⟨f, first, cap, hu, fun w'' Fr'' l r arg h1 => h w'' Fr'' l r arg (hl.trans h1)⟩

theorem BV.later {P : Program} {T : Tab} {w w' : World} {Fr Fr' : Nat → Prop} {v : V} {u : Value} (h : BV P T w Fr v u) (hl : Later w Fr w' Fr') : BV P T w' Fr' v u := by
  induction h with
  | undef u => exact .undef u
  | skip => exact .skip
  | nil => exact .nil
  | flat v u h => exact .flat v u h
  | slv e l u h => exact .slv e l u (h.later hl)
  | slr e e' xss a n cap us b o h1 h2 h3 h4 h5 =>
    refine .slr e e' xss a n cap us b o h1 h2 h3 h4 (h5.imp id ?_)
    rintro ⟨ha, hb, hc, hs⟩
    exact ⟨ha, (hl b hb).1, fun j hj => (cell_later (hl b hb).2 _).trans (hc j hj), fun j hj => (hs j hj).later hl⟩
  | pvi t0 l off t b o hb h1 h2 hc h3 => exact .pvi t0 l off t b o (hl b hb).1 h1 h2 (fun j hj => (cell_later (hl b hb).2 _).trans (hc j hj)) h3
  | pvv vs off t b o us hb hc _ ih => exact .pvv vs off t b o us (hl b hb).1 (fun j v hj => (cell_later (hl b hb).2 _).trans (hc j v hj)) ih
  | pvr e e' xss i b o u h1 hb hc hs => exact .pvr e e' xss i b o u h1 (hl b hb).1 ((cell_later (hl b hb).2 _).trans hc) (hs.later hl)
  | cloB a g u h => exact .cloB a g u (h.later hl)
  | cloL a e g u h => exact .cloL a e g u (h.later hl)

/-! ## Local values -/

/-- Where an own block lies: the kit's block, the first cell, the block's size; none: no block (a nil slice). -/
abbrev Loc := Option (Nat × Nat × Nat)

def TyAt (T : Tab) (bk : Blk) (off : Nat) (t : TypeId) : Prop :=
  match bk.d with
  | .ints l => isFlatTy T t = true ∧ isFlatTy T bk.e = true ∧ off + (T.at t).size ≤ l.length ∧ (∀ j, j < (T.at t).size → kindAt (T.at bk.e).ks (off + j) = kindAt (T.at t).ks j) ∧
      (bk.r = true → l.length = (T.at bk.e).size)
  | .rows xss => off < xss.length ∧ bk.e = t
  | .vals _ => True

/-- Local values: references are to own blocks. -/
inductive LV (P : Program) (T : Tab) (w : World) (Fr : Nat → Prop) (blk : Nat → Option Blk) (ρ : Nat → Loc) : V → Value → Prop
  | bv (v : V) (u : Value) : BV P T w Fr v u → LV P T w Fr blk ρ v u
  | ptr (k off : Nat) (t : TypeId) (bk : Blk) (b base lim : Nat) : blk k = some bk → ρ k = some (b, base, lim) → TyAt T bk off t → LV P T w Fr blk ρ (.ptr k off t) (.pointer (some ⟨b, base + off, none⟩))
  | slw (k : Nat) (e : TypeId) (bk : Blk) (b base lim n cap : Nat) : blk k = some bk → bk.e = e → bk.r = false → ρ k = some (b, base, lim) → bk.d.len = n * (T.at e).size → n ≤ cap → cap ≤ maxLen → base + cap * (T.at e).size ≤ lim →
      LV P T w Fr blk ρ (.slw k e) (.slice (some ⟨b, base, none⟩) n cap)
  | slwNil (k : Nat) (e : TypeId) (bk : Blk) (a : Option Addr) : blk k = some bk → bk.e = e → bk.r = false → ρ k = none → bk.d.len = 0 → LV P T w Fr blk ρ (.slw k e) (.slice a 0 0)
  | sl (k off n : Nat) (e : TypeId) (e0 : TypeId) (r : Bool) (l : List Int) (a : Option Addr) (cap : Nat) : blk k = some ⟨e0, r, .ints l⟩ → isFlatTy T e0 = true → isFlatTy T e = true → off + n * (T.at e).size ≤ l.length →
      (∀ j, j < n * (T.at e).size → kindAt (T.at e0).ks (off + j) = kindAt (T.at e).ks j) → (r = true → l.length = (T.at e0).size) → n ≤ cap → cap ≤ maxLen →
      (cap = 0 ∨ ∃ b base lim, ρ k = some (b, base, lim) ∧ a = some ⟨b, base + off, none⟩ ∧ base + off + cap * (T.at e).size ≤ lim) → LV P T w Fr blk ρ (.sl k off n e) (.slice a n cap)
  | tup (vs : List V) (arr : Array Value) : arr.size = vs.length → (∀ i v, vs[i]? = some v → LV P T w Fr blk ρ v (arr.getD i Go.undef)) → LV P T w Fr blk ρ (.tup vs) (.tuple arr)
  | fn (f : FuncId) (first cap : List V) (a c : Array Value) : a.size = first.length → c.size = cap.length → (∀ i v, first[i]? = some v → LV P T w Fr blk ρ v (a.getD i Go.undef)) →
      (∀ i v, cap[i]? = some v → LV P T w Fr blk ρ v (c.getD i Go.undef)) → LV P T w Fr blk ρ (.fn f first cap) (.func (.func f) a c)

/-- Two contents of one shape: references stay right. -/
def D.alike : D → D → Prop
  | .ints a, .ints b => a.length = b.length
  | .rows a, .rows b => a.length = b.length
  | .vals a, .vals b => a.length = b.length
  | _, _ => False

def Blk.alike (x y : Blk) : Prop := x.e = y.e ∧ x.r = y.r ∧ x.d.alike y.d

theorem D.alike.len {x y : D} (h : x.alike y) : y.len = x.len := by
  cases x <;> cases y <;> simp_all [D.alike, D.len]

theorem TyAt.alike {T : Tab} {x y : Blk} {off : Nat} {t : TypeId} (h : TyAt T x off t) (ha : x.alike y) : TyAt T y off t := by
  obtain ⟨e, r, d⟩ := x
  obtain ⟨e', r', d'⟩ := y
  obtain ⟨h1, h2, h3⟩ := ha
  simp only at h1 h2 h3
  subst h1 h2
  cases d <;> cases d' <;> simp_all [D.alike, TyAt]

theorem hasL_of : ∀ (vs : List V) (i : Nat) (v : V) (k : Nat), vs[i]? = some v → V.has k v = true → V.hasL k vs = true := by
  intro vs
  induction vs with
  | nil => intro i v k hv; simp at hv
  | cons x r ihr =>
    intro i v k hv hh
    cases i with
    | zero => simp at hv; subst hv; simp [V.hasL, hh]
    | succ i => simp only [V.hasL, Bool.or_eq_true]; exact .inr (ihr i v k (by simpa using hv) hh)

theorem LV.move {P : Program} {T : Tab} {w w' : World} {Fr Fr' : Nat → Prop} {blk blk' : Nat → Option Blk} {ρ ρ' : Nat → Loc} {v : V} {u : Value} (h : LV P T w Fr blk ρ v u) (hl : Later w Fr w' Fr')
    (hk : ∀ k bk, V.has k v = true → blk k = some bk → ρ' k = ρ k ∧ ∃ bk', blk' k = some bk' ∧ bk.alike bk') : LV P T w' Fr' blk' ρ' v u := by
  induction h with
  | bv v u h => exact .bv v u (h.later hl)
  | ptr k off t bk b base lim h1 h2 h3 =>
    obtain ⟨e1, bk', e2, e3⟩ := hk k bk (by simp [V.has]) h1
    exact .ptr k off t bk' b base lim e2 (e1.trans h2) (h3.alike e3)
  | slw k e bk b base lim n cap h1 h2 h3 h4 h5 h6 h7 h8 =>
    obtain ⟨e1, bk', e2, e3⟩ := hk k bk (by simp [V.has]) h1
    exact .slw k e bk' b base lim n cap e2 (e3.1 ▸ h2) (e3.2.1 ▸ h3) (e1.trans h4) ((D.alike.len e3.2.2).trans h5) h6 h7 h8
  | slwNil k e bk a h1 h2 h3 h4 h5 =>
    obtain ⟨e1, bk', e2, e3⟩ := hk k bk (by simp [V.has]) h1
    exact .slwNil k e bk' a e2 (e3.1 ▸ h2) (e3.2.1 ▸ h3) (e1.trans h4) ((D.alike.len e3.2.2).trans h5)
  | sl k off n e e0 r l a cap h1 h2 h3 h4 h5 h5r h6 h7 h8 =>
    obtain ⟨e1, ⟨e0', r', d'⟩, e2, e3, e4, e5⟩ := hk k _ (by simp [V.has]) h1
    simp only at e3 e4 e5
    subst e3 e4
    cases d' with
    | ints l' =>
      have hlen : l.length = l'.length := e5
      exact .sl k off n e _ _ l' a cap e2 h2 h3 (hlen ▸ h4) h5 (fun hr => hlen ▸ h5r hr) h6 h7 (by rw [e1]; exact h8)
    | rows l' => exact e5.elim
    | vals l' => exact e5.elim
  | tup vs arr h1 _ ih => exact .tup vs arr h1 fun i v hv => ih i v hv fun k bk hh => hk k bk (by simp [V.has, hasL_of vs i v k hv hh])
  | fn f first cap a c h1 h2 _ _ ih1 ih2 =>
    exact .fn f first cap a c h1 h2 (fun i v hv => ih1 i v hv fun k bk hh => hk k bk (by simp [V.has, hasL_of first i v k hv hh]))
      (fun i v hv => ih2 i v hv fun k bk hh => hk k bk (by simp [V.has, hasL_of cap i v k hv hh]))

end Go.Ev
end

section
/- The relation between the evaluator's state and the kit's frame and world, and how it is kept. -/
namespace Go.Ev
open Go.RowKit (Below)

variable {P : Program} {T : Tab}

def ArrOK (P : Program) (T : Tab) (w : World) (Fr : Nat → Prop) (e : TypeId) (d : D) (arr : Array Value) (base : Nat) : Prop :=
  match d with
  | .ints l => isFlatTy T e = true ∧ IntsIn (T.at e).ks l arr base
  | .rows xss => isFlatTy T e = false ∧ (T.at e).size = 1 ∧ ∃ e', (T.at e).d = .slice e' ∧ ∀ j, j < xss.length → ∃ u, arr[base + j]? = some u ∧ SV T w Fr e' (rdr xss j) u
  | .vals vs => ∀ j v, vs[j]? = some v → ∃ u, arr[base + j]? = some u ∧ BV P T w Fr v u

def OB (P : Program) (T : Tab) (w : World) (Fr : Nat → Prop) (bk : Blk) : Loc → Prop
  | none => bk.r = false ∧ bk.d.len = 0 ∧ (match bk.d with
    | .ints _ => isFlatTy T bk.e = true
    | .rows _ => isFlatTy T bk.e = false ∧ (T.at bk.e).size = 1 ∧ ∃ e', (T.at bk.e).d = .slice e'
    | .vals _ => False)
  | some (b, base, lim) => ∃ arr, w.heap[b]? = some (.cells arr bk.e (0, 0)) ∧ arr.size = lim ∧ ArrOK P T w Fr bk.e bk.d arr base

def FrOf (blk : Nat → Option Blk) (ρ : Nat → Loc) (w : World) (b : Nat) : Prop :=
  b < w.heap.size ∧ ∀ k bk base lim, blk k = some bk → ρ k = some (b, base, lim) → False

structure RelAt (P : Program) (T : Tab) (w0 : World) (M : Nat → Prop) (N : Nat → Loc × Blk) (ρ : Nat → Loc) (s : St) (a : Act) (w : World) : Prop where
  os : w.os = w0.os
  tape : w.tape = w0.tape
  output : w.output = w0.output
  size : w0.heap.size ≤ w.heap.size
  old : ∀ b, b < w0.heap.size → ¬ M b → w.heap[b]? = w0.heap[b]?
  defers : a.defers = []
  tn : a.tmps.size = s.n
  loc : ∀ k bk b base lim, s.blk k = some bk → ρ k = some (b, base, lim) → b < w.heap.size ∧ (w0.heap.size ≤ b ∨ M b)
  inj : ∀ k k' bk bk' b base base' lim lim', s.blk k = some bk → s.blk k' = some bk' → ρ k = some (b, base, lim) → ρ k' = some (b, base', lim') → k = k'
  ob : ∀ k bk, s.blk k = some bk → OB P T w (FrOf s.blk ρ w) bk (ρ k)
  lv : ∀ t, LV P T w (FrOf s.blk ρ w) s.blk ρ (s.get t) (a.tmps.getD t undef)
  pin : ∀ k, s.n ≤ k → ρ k = (N k).1 ∧ ∀ bk, s.blk k = some bk → (N k).2.alike bk

theorem alike_trans {x y z : Blk} (h1 : x.alike y) (h2 : y.alike z) : x.alike z := by
  refine ⟨h1.1.trans h2.1, h1.2.1.trans h2.2.1, ?_⟩
  have a := h1.2.2
  have b := h2.2.2
  revert a b
  generalize x.d = p, y.d = q, z.d = r
  intro a b
  cases p <;> cases q <;> cases r <;> simp_all [D.alike]

def upd (ρ : Nat → Loc) (k : Nat) (l : Loc) : Nat → Loc := fun j => if j = k then l else ρ j
theorem upd_self (ρ : Nat → Loc) (k : Nat) (l : Loc) : upd ρ k l k = l := by simp [upd]
theorem upd_ne (ρ : Nat → Loc) {k j : Nat} (l : Loc) (h : j ≠ k) : upd ρ k l j = ρ j := by simp [upd, h]

theorem beq_self' (n : Nat) : Nat.beq n n = true := Nat.beq_refl n
theorem beq_ne {a b : Nat} (h : a ≠ b) : Nat.beq a b = false := by
  cases hb : Nat.beq a b with
  | false => rfl
  | true => exact absurd (Nat.eq_of_beq_eq_true hb) h

theorem look_cons_self {α : Type} (d : α) (i : Nat) (v : α) (r : List (Nat × α)) : look d ((i, v) :: r) i = v := by simp [look]
theorem look_cons_ne {α : Type} (d : α) {i t : Nat} (v : α) (r : List (Nat × α)) (h : i ≠ t) : look d ((i, v) :: r) t = look d r t := by simp [look, beq_ne h]

theorem get_put_self (s : St) (d : Nat) (v : V) : (s.put d v).get d = v := look_cons_self _ _ _ _
theorem get_put_ne (s : St) {d t : Nat} (v : V) (h : d ≠ t) : (s.put d v).get t = s.get t := look_cons_ne _ _ _ h
theorem blk_put (s : St) (d : Nat) (v : V) : (s.put d v).blk = s.blk := rfl
theorem get_setB (s : St) (k : Nat) (b : Blk) : (s.setB k b).get = s.get := rfl
theorem blk_setB_self (s : St) (k : Nat) (b : Blk) : (s.setB k b).blk k = some b := look_cons_self _ _ _ _
theorem blk_setB_ne (s : St) {k j : Nat} (b : Blk) (h : k ≠ j) : (s.setB k b).blk j = s.blk j := look_cons_ne _ _ _ h
theorem get_drop (s : St) (k : Nat) : (s.drop k).get = s.get := rfl
theorem blk_drop_self (s : St) (k : Nat) : (s.drop k).blk k = none := look_cons_self _ _ _ _
theorem blk_drop_ne (s : St) {k j : Nat} (h : k ≠ j) : (s.drop k).blk j = s.blk j := look_cons_ne _ _ _ h
theorem blk_kill (s : St) (k : Nat) : (s.kill k).blk = s.blk := rfl
theorem get_kill (s : St) (k t : Nat) : (s.kill k).get t = cond (V.has k (s.get t)) .undef (s.get t) := by
  obtain ⟨n, env, own⟩ := s
  simp only [St.get, St.kill]
  induction env with
  | nil => simp [killE, look, V.has]
  | cons x r ih =>
    obtain ⟨i, v⟩ := x
    simp only [killE, look]
    cases Nat.beq i t <;> simp [ih]

theorem FrOf.mono {blk blk' : Nat → Option Blk} {ρ ρ' : Nat → Loc} {w w' : World} (hs : w.heap.size ≤ w'.heap.size)
    (h : ∀ b, b < w.heap.size → (∀ k bk base lim, blk k = some bk → ρ k = some (b, base, lim) → False) → ∀ k bk base lim, blk' k = some bk → ρ' k = some (b, base, lim) → False) :
    ∀ b, FrOf blk ρ w b → FrOf blk' ρ' w' b := fun b hb => ⟨Nat.lt_of_lt_of_le hb.1 hs, h b hb.1 hb.2⟩

theorem ArrOK.later {w w' : World} {Fr Fr' : Nat → Prop} {e : TypeId} {d : D} {arr : Array Value} {base : Nat} (h : ArrOK P T w Fr e d arr base) (hl : Later w Fr w' Fr') : ArrOK P T w' Fr' e d arr base := by
  cases d with
  | ints l => exact h
  | rows xss =>
    obtain ⟨h1, h2, e', h3, h4⟩ := h
    exact ⟨h1, h2, e', h3, fun j hj => let ⟨u, hu, hs⟩ := h4 j hj; ⟨u, hu, hs.later hl⟩⟩
  | vals vs => exact fun j v hv => let ⟨u, hu, hb⟩ := h j v hv; ⟨u, hu, hb.later hl⟩

section
variable {w0 w w' : World} {M : Nat → Prop} {ρ : Nat → Loc} {N : Nat → Loc × Blk} {s : St} {a : Act}

theorem RelAt.put (h : RelAt P T w0 M N ρ s a w) {d : Nat} {v : V} {u : Value} (hd : d < s.n) (hv : LV P T w (FrOf s.blk ρ w) s.blk ρ v u) : RelAt P T w0 M N ρ (s.put d v) (a.put (some d) u) w := by
  refine ⟨h.os, h.tape, h.output, h.size, h.old, h.defers, (by simp only [Act.put, Array.size_setIfInBounds]; exact h.tn), h.loc, h.inj, h.ob, fun t => ?_, h.pin⟩
  by_cases e : d = t
  · subst e
    rw [get_put_self]
    have hlt : d < a.tmps.size := by rw [h.tn]; exact hd
    have : (a.put (some d) u).tmps.getD d undef = u := by simp [Act.put, hlt]
    rw [this]
    exact hv
  · rw [get_put_ne _ _ e]
    have : (a.put (some d) u).tmps.getD t undef = a.tmps.getD t undef := by simp [Act.put, Array.getElem?_setIfInBounds_ne e]
    rw [this]
    exact h.lv t

/-- A value in the evaluator's hand may be forgotten or replaced by one that says the same. -/
theorem RelAt.same (h : RelAt P T w0 M N ρ s a w) {d : Nat} {v : V} (hv : LV P T w (FrOf s.blk ρ w) s.blk ρ v (a.tmps.getD d undef)) : RelAt P T w0 M N ρ (s.put d v) a w := by
  refine ⟨h.os, h.tape, h.output, h.size, h.old, h.defers, h.tn, h.loc, h.inj, h.ob, fun t => ?_, h.pin⟩
  by_cases e : d = t
  · subst e; rw [get_put_self]; exact hv
  · rw [get_put_ne _ _ e]; exact h.lv t

theorem RelAt.kill (h : RelAt P T w0 M N ρ s a w) (k : Nat) : RelAt P T w0 M N ρ (s.kill k) a w := by
  refine ⟨h.os, h.tape, h.output, h.size, h.old, h.defers, h.tn, h.loc, h.inj, h.ob, fun t => ?_, h.pin⟩
  rw [get_kill]
  cases V.has k (s.get t) with
  | true => exact .bv _ _ (.undef _)
  | false => exact h.lv t

theorem has_undef (k : Nat) : V.has k .undef = false := rfl
theorem noRef_kill (s : St) (k t : Nat) : V.has k ((s.kill k).get t) = false := by
  rw [get_kill]
  cases hh : V.has k (s.get t) with
  | true => rfl
  | false => simpa using hh

/-- The general step at a block k that is owned already: it is given other contents, or another place. -/
theorem RelAt.change (h : RelAt P T w0 M N ρ s a w) {k : Nat} {bk bk' : Blk} {loc' : Loc} (hk : s.blk k = some bk)
    (hos : w'.os = w.os) (htape : w'.tape = w.tape) (hout : w'.output = w.output) (hsz : w.heap.size ≤ w'.heap.size)
    (hheap : ∀ b, b < w.heap.size → (∀ base lim, ρ k ≠ some (b, base, lim)) → w'.heap[b]? = w.heap[b]?)
    (hloc : ∀ b base lim, loc' = some (b, base, lim) → b < w'.heap.size ∧ ((∃ base lim, ρ k = some (b, base, lim)) ∨ w.heap.size ≤ b))
    (hob : Later w (FrOf s.blk ρ w) w' (FrOf (s.setB k bk').blk (upd ρ k loc') w') → OB P T w' (FrOf (s.setB k bk').blk (upd ρ k loc') w') bk' loc')
    (href : ((∀ t, V.has k (s.get t) = false) ∧ k < s.n) ∨ (bk.alike bk' ∧ loc' = ρ k)) :
    RelAt P T w0 M N (upd ρ k loc') (s.setB k bk') a w' := by
  have hlater : Later w (FrOf s.blk ρ w) w' (FrOf (s.setB k bk').blk (upd ρ k loc') w') := by
    intro b hb
    have hne : ∀ base lim, ρ k ≠ some (b, base, lim) := fun base lim e => hb.2 k bk base lim hk e
    refine ⟨⟨Nat.lt_of_lt_of_le hb.1 hsz, ?_⟩, hheap b hb.1 hne⟩
    intro j bj base lim hj hρ
    by_cases e : j = k
    · subst e
      rw [upd_self] at hρ
      rcases (hloc b base lim hρ).2 with ⟨base', lim', hh⟩ | hh
      · exact hne _ _ hh
      · have := hb.1; omega
    · rw [upd_ne _ _ e] at hρ
      rw [blk_setB_ne _ _ (Ne.symm e)] at hj
      exact hb.2 j bj base lim hj hρ
  refine ⟨hos.trans h.os, htape.trans h.tape, hout.trans h.output, Nat.le_trans h.size hsz, ?_, h.defers, h.tn, ?_, ?_, ?_, ?_, ?_⟩
  · intro b hb hm
    rw [hheap b (Nat.lt_of_lt_of_le hb h.size) ?_]
    · exact h.old b hb hm
    · intro base lim e
      rcases (h.loc k bk b base lim hk e).2 with hx | hx
      · omega
      · exact hm hx
  · intro j bj b base lim hj hρ
    by_cases e : j = k
    · subst e
      rw [upd_self] at hρ
      obtain ⟨h1, h2⟩ := hloc b base lim hρ
      refine ⟨h1, ?_⟩
      rcases h2 with ⟨base', lim', hh⟩ | hh
      · exact (h.loc j bk b base' lim' hk hh).2
      · have := h.size; exact .inl (by omega)
    · rw [upd_ne _ _ e] at hρ
      rw [blk_setB_ne _ _ (Ne.symm e)] at hj
      obtain ⟨h1, h2⟩ := h.loc j bj b base lim hj hρ
      exact ⟨Nat.lt_of_lt_of_le h1 hsz, h2⟩
  · have key : ∀ j bj b base base' lim lim', j ≠ k → s.blk j = some bj → ρ j = some (b, base, lim) → loc' = some (b, base', lim') → False := by
      intro j bj b base base' lim lim' hjk hj hρ hl
      rcases (hloc b base' lim' hl).2 with ⟨base2, lim2, hh⟩ | hh
      · exact hjk (h.inj j k bj bk b base base2 lim lim2 hj hk hρ hh)
      · have := (h.loc j bj b base lim hj hρ).1; omega
    intro i j bi bj b base base' lim lim' hi hj hρi hρj
    by_cases ei : i = k
    · by_cases ej : j = k
      · rw [ei, ej]
      · rw [ei, upd_self] at hρi
        rw [upd_ne _ _ ej] at hρj
        rw [blk_setB_ne _ _ (Ne.symm ej)] at hj
        exact (key j bj b base' base lim' lim ej hj hρj hρi).elim
    · rw [upd_ne _ _ ei] at hρi
      rw [blk_setB_ne _ _ (Ne.symm ei)] at hi
      by_cases ej : j = k
      · rw [ej, upd_self] at hρj
        exact (key i bi b base base' lim lim' ei hi hρi hρj).elim
      · rw [upd_ne _ _ ej] at hρj
        rw [blk_setB_ne _ _ (Ne.symm ej)] at hj
        exact h.inj i j bi bj b base base' lim lim' hi hj hρi hρj
  · intro j bj hj
    by_cases e : j = k
    · subst e
      rw [blk_setB_self] at hj
      injection hj with hj
      subst hj
      rw [upd_self]
      exact hob hlater
    · rw [blk_setB_ne _ _ (Ne.symm e)] at hj
      have ho := h.ob j bj hj
      rw [upd_ne _ _ e]
      cases hρ : ρ j with
      | none => rw [hρ] at ho; exact ho
      | some x =>
        obtain ⟨b, base, lim⟩ := x
        rw [hρ] at ho
        obtain ⟨arr, h1, h2, h3⟩ := ho
        refine ⟨arr, ?_, h2, h3.later hlater⟩
        rw [hheap b (h.loc j bj b base lim hj hρ).1 ?_]
        · exact h1
        · intro base' lim' e'
          exact e (h.inj j k bj bk b base base' lim lim' hj hk hρ e')
  · intro t
    refine (h.lv t).move hlater ?_
    intro j bj hh hj
    by_cases e : j = k
    · subst e
      rcases href with ⟨hr, _⟩ | ⟨hr1, hr2⟩
      · rw [hr t] at hh; cases hh
      · rw [hk] at hj
        injection hj with hj
        subst hj
        exact ⟨by rw [upd_self, hr2], bk', blk_setB_self _ _ _, hr1⟩
    · rw [upd_ne _ _ e, blk_setB_ne _ _ (Ne.symm e)]
      refine ⟨rfl, bj, hj, rfl, rfl, ?_⟩
      cases bj.d <;> simp [D.alike]
  · intro j hj
    have hj : s.n ≤ j := hj
    obtain ⟨p1, p2⟩ := h.pin j hj
    by_cases e : j = k
    · subst e
      rcases href with ⟨_, hlt⟩ | ⟨hr1, hr2⟩
      · omega
      · refine ⟨by rw [upd_self, hr2]; exact p1, fun bk2 hbk => ?_⟩
        rw [blk_setB_self] at hbk
        injection hbk with hbk
        subst hbk
        exact alike_trans (p2 _ hk) hr1
    · rw [upd_ne _ _ e]
      refine ⟨p1, fun bk2 hbk => p2 bk2 ?_⟩
      rw [blk_setB_ne _ _ (Ne.symm e)] at hbk
      exact hbk

/-- A new block, made since world w. -/
theorem RelAt.adopt (h : RelAt P T w0 M N ρ s a w) {d : Nat} {bk : Blk} {loc' : Loc} (hd : s.blk d = none) (hdn : d < s.n) (hB : Below w.heap.size w w')
    (hloc : ∀ b base lim, loc' = some (b, base, lim) → b < w'.heap.size ∧ w.heap.size ≤ b)
    (hob : Later w (FrOf s.blk ρ w) w' (FrOf (s.setB d bk).blk (upd ρ d loc') w') → OB P T w' (FrOf (s.setB d bk).blk (upd ρ d loc') w') bk loc') :
    RelAt P T w0 M N (upd ρ d loc') (s.setB d bk) a w' := by
  have hlater : Later w (FrOf s.blk ρ w) w' (FrOf (s.setB d bk).blk (upd ρ d loc') w') := by
    intro b hb
    refine ⟨⟨Nat.lt_of_lt_of_le hb.1 hB.size, ?_⟩, hB.block b hb.1⟩
    intro j bj base lim hj hρ
    by_cases e : j = d
    · subst e
      rw [upd_self] at hρ
      have h1 := (hloc b base lim hρ).2
      have h2 := hb.1
      omega
    · rw [upd_ne _ _ e] at hρ
      rw [blk_setB_ne _ _ (Ne.symm e)] at hj
      exact hb.2 j bj base lim hj hρ
  refine ⟨hB.os.trans h.os, hB.tape.trans h.tape, hB.output.trans h.output, Nat.le_trans h.size hB.size, ?_, h.defers, h.tn, ?_, ?_, ?_, ?_, ?_⟩
  · intro b hb hm
    rw [hB.block b (Nat.lt_of_lt_of_le hb h.size)]
    exact h.old b hb hm
  · intro j bj b base lim hj hρ
    by_cases e : j = d
    · rw [e, upd_self] at hρ
      obtain ⟨h1, h2⟩ := hloc b base lim hρ
      have := h.size
      exact ⟨h1, .inl (by omega)⟩
    · rw [upd_ne _ _ e] at hρ
      rw [blk_setB_ne _ _ (Ne.symm e)] at hj
      obtain ⟨h1, h2⟩ := h.loc j bj b base lim hj hρ
      exact ⟨Nat.lt_of_lt_of_le h1 hB.size, h2⟩
  · have key : ∀ j bj b base base' lim lim', s.blk j = some bj → ρ j = some (b, base, lim) → loc' = some (b, base', lim') → False := by
      intro j bj b base base' lim lim' hj hρ hl
      have h1 := (h.loc j bj b base lim hj hρ).1
      have h2 := (hloc b base' lim' hl).2
      omega
    intro i j bi bj b base base' lim lim' hi hj hρi hρj
    by_cases ei : i = d
    · by_cases ej : j = d
      · rw [ei, ej]
      · rw [ei, upd_self] at hρi
        rw [upd_ne _ _ ej] at hρj
        rw [blk_setB_ne _ _ (Ne.symm ej)] at hj
        exact (key j bj b base' base lim' lim hj hρj hρi).elim
    · rw [upd_ne _ _ ei] at hρi
      rw [blk_setB_ne _ _ (Ne.symm ei)] at hi
      by_cases ej : j = d
      · rw [ej, upd_self] at hρj
        exact (key i bi b base base' lim lim' hi hρi hρj).elim
      · rw [upd_ne _ _ ej] at hρj
        rw [blk_setB_ne _ _ (Ne.symm ej)] at hj
        exact h.inj i j bi bj b base base' lim lim' hi hj hρi hρj
  · intro j bj hj
    by_cases e : j = d
    · subst e
      rw [blk_setB_self] at hj
      injection hj with hj
      subst hj
      rw [upd_self]
      exact hob hlater
    · rw [blk_setB_ne _ _ (Ne.symm e)] at hj
      have ho := h.ob j bj hj
      rw [upd_ne _ _ e]
      cases hρ : ρ j with
      | none => rw [hρ] at ho; exact ho
      | some x =>
        obtain ⟨b, base, lim⟩ := x
        rw [hρ] at ho
        obtain ⟨arr, h1, h2, h3⟩ := ho
        exact ⟨arr, by rw [hB.block b (h.loc j bj b base lim hj hρ).1]; exact h1, h2, h3.later hlater⟩
  · intro t
    refine (h.lv t).move hlater ?_
    intro j bj hh hj
    have e : j ≠ d := fun e => by subst e; rw [hd] at hj; cases hj
    rw [upd_ne _ _ e]
    rw [blk_setB_ne _ _ (Ne.symm e)]
    refine ⟨rfl, bj, hj, rfl, rfl, ?_⟩
    cases bj.d <;> simp [D.alike]
  · intro j hj
    have hj : s.n ≤ j := hj
    have e : j ≠ d := by omega
    obtain ⟨p1, p2⟩ := h.pin j hj
    rw [upd_ne _ _ e]
    refine ⟨p1, fun bk2 hbk => p2 bk2 ?_⟩
    rw [blk_setB_ne _ _ (Ne.symm e)] at hbk
    exact hbk

/-- A block that nobody leads to is let go. -/
theorem RelAt.dropB (h : RelAt P T w0 M N ρ s a w) {k : Nat} (hr : ∀ t, V.has k (s.get t) = false) : RelAt P T w0 M N ρ (s.drop k) a w := by
  have hsub : ∀ j bj, (s.drop k).blk j = some bj → j ≠ k ∧ s.blk j = some bj := by
    intro j bj hj
    have e : j ≠ k := fun e => by subst e; rw [blk_drop_self] at hj; cases hj
    rw [blk_drop_ne _ (Ne.symm e)] at hj
    exact ⟨e, hj⟩
  have hlater : Later w (FrOf s.blk ρ w) w (FrOf (s.drop k).blk ρ w) := fun b hb => ⟨⟨hb.1, fun j bj base lim hj hρ => hb.2 j bj base lim (hsub j bj hj).2 hρ⟩, rfl⟩
  refine ⟨h.os, h.tape, h.output, h.size, h.old, h.defers, h.tn, fun j bj b base lim hj => h.loc j bj b base lim (hsub j bj hj).2,
    fun i j bi bj b base base' lim lim' hi hj => h.inj i j bi bj b base base' lim lim' (hsub i bi hi).2 (hsub j bj hj).2, ?_, ?_, fun j hj => ⟨(h.pin j hj).1, fun bk hbk => (h.pin j hj).2 bk (hsub j bk hbk).2⟩⟩
  · intro j bj hj
    have ho := h.ob j bj (hsub j bj hj).2
    cases hρ : ρ j with
    | none => rw [hρ] at ho; exact ho
    | some x =>
      obtain ⟨b, base, lim⟩ := x
      rw [hρ] at ho
      obtain ⟨arr, h1, h2, h3⟩ := ho
      exact ⟨arr, h1, h2, h3.later hlater⟩
  · intro t
    refine (h.lv t).move hlater ?_
    intro j bj hh hj
    have e : j ≠ k := fun e => by subst e; have hx := hr t; rw [hx] at hh; cases hh
    refine ⟨rfl, bj, by rw [blk_drop_ne _ (Ne.symm e)]; exact hj, rfl, rfl, ?_⟩
    cases bj.d <;> simp [D.alike]

/-- The world has grown; nothing that was there has turned. -/
theorem RelAt.below (h : RelAt P T w0 M N ρ s a w) (hB : Below w.heap.size w w') : RelAt P T w0 M N ρ s a w' := by
  have hlater : Later w (FrOf s.blk ρ w) w' (FrOf s.blk ρ w') := fun b hb => ⟨⟨Nat.lt_of_lt_of_le hb.1 hB.size, hb.2⟩, hB.block b hb.1⟩
  refine ⟨hB.os.trans h.os, hB.tape.trans h.tape, hB.output.trans h.output, Nat.le_trans h.size hB.size, fun b hb hm => (hB.block b (Nat.lt_of_lt_of_le hb h.size)).trans (h.old b hb hm), h.defers, h.tn,
    fun k bk b base lim hk hρ => ⟨Nat.lt_of_lt_of_le (h.loc k bk b base lim hk hρ).1 hB.size, (h.loc k bk b base lim hk hρ).2⟩, h.inj, ?_, ?_, h.pin⟩
  · intro j bj hj
    have ho := h.ob j bj hj
    cases hρ : ρ j with
    | none => rw [hρ] at ho; exact ho
    | some x =>
      obtain ⟨b, base, lim⟩ := x
      rw [hρ] at ho
      obtain ⟨arr, h1, h2, h3⟩ := ho
      exact ⟨arr, by rw [hB.block b (h.loc j bj b base lim hj hρ).1]; exact h1, h2, h3.later hlater⟩
  · intro t
    refine (h.lv t).move hlater fun j bj _ hj => ⟨rfl, bj, hj, rfl, rfl, ?_⟩
    cases bj.d <;> simp [D.alike]
theorem RelAt.ext (h : RelAt P T w0 M N ρ s a w) {s' : St} (h1 : s'.n = s.n) (h2 : ∀ t, s'.get t = s.get t) (h3 : ∀ k, s'.blk k = s.blk k) : RelAt P T w0 M N ρ s' a w := by
  have e3 : s'.blk = s.blk := funext h3
  refine ⟨h.os, h.tape, h.output, h.size, h.old, h.defers, h.tn.trans h1.symm, ?_, ?_, ?_, ?_, fun k hk => by rw [e3]; exact h.pin k (h1 ▸ hk)⟩
  · rw [e3]; exact h.loc
  · rw [e3]; exact h.inj
  · rw [e3]; exact h.ob
  · intro t; rw [e3, h2 t]; exact h.lv t

end

def Rel (P : Program) (T : Tab) (w0 : World) (M : Nat → Prop) (N : Nat → Loc × Blk) (s : St) (a : Act) (w : World) : Prop := ∃ ρ, RelAt P T w0 M N ρ s a w

end Go.Ev
end

section
/- The operations that call nothing: what the evaluator gives, the kit's model gives. -/
namespace Go.Ev
open Go.RowKit (Below)

variable {P : Program} {T : Tab} {w0 w : World} {M : Nat → Prop} {ρ : Nat → Loc} {N : Nat → Loc × Blk} {s : St} {a : Act} {Fr : Nat → Prop} {blk : Nat → Option Blk}

/-! ## What a value in the evaluator's hand says -/

theorem LV.int_inv {k : IntKind} {n : Int} {u : Value} (h : LV P T w Fr blk ρ (.int k n) u) : u = .int k n := by
  cases h with
  | bv _ _ h => cases h with
    | flat _ _ h => exact h
theorem LV.bool_inv {b : Bool} {u : Value} (h : LV P T w Fr blk ρ (.bool b) u) : u = .bool b := by
  cases h with
  | bv _ _ h => cases h with
    | flat _ _ h => exact h
theorem LV.str_inv {b : ByteArray} {u : Value} (h : LV P T w Fr blk ρ (.str b) u) : u = .string b := by
  cases h with
  | bv _ _ h => cases h with
    | flat _ _ h => exact h
theorem LV.agg_inv {t : TypeId} {l : List Int} {u : Value} (h : LV P T w Fr blk ρ (.agg t l) u) : FV T (.agg t l) u := by
  cases h with
  | bv _ _ h => cases h with
    | flat _ _ h => exact h
theorem LV.skip_inv {u : Value} (h : LV P T w Fr blk ρ .skip u) : u = undef := by
  cases h with
  | bv _ _ h => cases h with
    | flat _ _ h => exact h.elim
    | skip => rfl
theorem LV.nil_inv {u : Value} (h : LV P T w Fr blk ρ .nil u) : u = .slice none 0 0 := by
  cases h with
  | bv _ _ h => cases h with
    | flat _ _ h => exact h.elim
    | nil => rfl
theorem LV.ptr_inv {k off : Nat} {t : TypeId} {u : Value} (h : LV P T w Fr blk ρ (.ptr k off t) u) :
    ∃ bk b base lim, blk k = some bk ∧ ρ k = some (b, base, lim) ∧ TyAt T bk off t ∧ u = .pointer (some ⟨b, base + off, none⟩) := by
  cases h with
  | bv _ _ h => cases h with
    | flat _ _ h => exact h.elim
  | ptr k off t bk b base lim h1 h2 h3 => exact ⟨bk, b, base, lim, h1, h2, h3, rfl⟩
theorem LV.pvi_inv {t0 : Option TypeId} {l : List Int} {off : Nat} {t : TypeId} {u : Value} (h : LV P T w Fr blk ρ (.pvi t0 l off t) u) :
    ∃ b o, Fr b ∧ isFlatTy T t = true ∧ off + (T.at t).size ≤ l.length ∧ CellsAt w b o (T.at t).ks l off (T.at t).size ∧ (t0 = some t → off = 0 → l.length = (T.at t).size) ∧ u = .pointer (some ⟨b, o, none⟩) := by
  cases h with
  | bv _ _ h => cases h with
    | flat _ _ h => exact h.elim
    | pvi t0 l off t b o h1 h2 h3 h4 h5 => exact ⟨b, o, h1, h2, h3, h4, h5, rfl⟩
theorem LV.pvv_inv {vs : List V} {off : Nat} {t : TypeId} {u : Value} (h : LV P T w Fr blk ρ (.pvv vs off t) u) :
    ∃ (b o : Nat) (us : Nat → Value), Fr b ∧ (∀ j v, vs[off + j]? = some v → w.cell? ⟨b, o + j, none⟩ = some (us j)) ∧ (∀ j v, vs[off + j]? = some v → BV P T w Fr v (us j)) ∧ u = .pointer (some ⟨b, o, none⟩) := by
  cases h with
  | bv _ _ h => cases h with
    | flat _ _ h => exact h.elim
    | pvv vs off t b o us h1 h2 h3 => exact ⟨b, o, us, h1, h2, h3, rfl⟩
theorem LV.pvr_inv {e : TypeId} {xss : List (List Int)} {i : Nat} {u : Value} (h : LV P T w Fr blk ρ (.pvr e xss i) u) :
    ∃ (e' : TypeId) (b o : Nat) (x : Value), (T.at e).d = .slice e' ∧ Fr b ∧ w.cell? ⟨b, o, none⟩ = some x ∧ SV T w Fr e' (rdr xss i) x ∧ u = .pointer (some ⟨b, o, none⟩) := by
  cases h with
  | bv _ _ h => cases h with
    | flat _ _ h => exact h.elim
    | pvr e e' xss i b o u h1 h2 h3 h4 => exact ⟨e', b, o, u, h1, h2, h3, h4, rfl⟩
theorem LV.slv_inv {e : TypeId} {l : List Int} {u : Value} (h : LV P T w Fr blk ρ (.slv e l) u) : SV T w Fr e l u := by
  cases h with
  | bv _ _ h => cases h with
    | flat _ _ h => exact h.elim
    | slv e l u h => exact h
theorem LV.slr_inv {e : TypeId} {xss : List (List Int)} {u : Value} (h : LV P T w Fr blk ρ (.slr e xss) u) : BV P T w Fr (.slr e xss) u := by
  cases h with
  | bv _ _ h => exact h
theorem LV.cloB_inv {e : TypeId} {g : List Int → Option Bool} {u : Value} (h : LV P T w Fr blk ρ (.cloB e g) u) : CloB P T w Fr e g u := by
  cases h with
  | bv _ _ h => cases h with
    | flat _ _ h => exact h.elim
    | cloB e l u h => exact h
theorem LV.cloL_inv {e e' : TypeId} {g : List Int → Option (List Int)} {u : Value} (h : LV P T w Fr blk ρ (.cloL e e' g) u) : CloL P T w Fr e e' g u := by
  cases h with
  | bv _ _ h => cases h with
    | flat _ _ h => exact h.elim
    | cloL e e' l u h => exact h
theorem LV.tup_inv {vs : List V} {u : Value} (h : LV P T w Fr blk ρ (.tup vs) u) : ∃ arr : Array Value, u = .tuple arr ∧ arr.size = vs.length ∧ ∀ i v, vs[i]? = some v → LV P T w Fr blk ρ v (arr.getD i undef) := by
  cases h with
  | bv _ _ h => cases h with
    | flat _ _ h => exact h.elim
  | tup vs arr h1 h2 => exact ⟨arr, rfl, h1, h2⟩

theorem LV.flatV {v : V} {u : Value} (h : FV T v u) : LV P T w Fr blk ρ v u := .bv _ _ (.flat _ _ h)
theorem LV.ofInt (k : IntKind) (n : Int) : LV P T w Fr blk ρ (.int k n) (.int k n) := .flatV rfl
theorem LV.ofBool (b : Bool) : LV P T w Fr blk ρ (.bool b) (.bool b) := .flatV rfl
theorem LV.ofStr (b : ByteArray) : LV P T w Fr blk ρ (.str b) (.string b) := .flatV rfl

theorem RelAt.ev (h : RelAt P T w0 M N ρ s a w) (x : Operand) : LV P T w (FrOf s.blk ρ w) s.blk ρ (s.ev x) (a.eval x) := by
  cases x with
  | tmp t => exact h.lv t
  | const v =>
    show LV P T w _ _ ρ (ofConst v) v
    unfold ofConst
    split
    · exact .ofBool _
    · exact .ofInt _ _
    · exact .ofStr _
    · exact .bv _ _ .nil
    · exact .bv _ _ (.undef _)
  | global g => exact .bv _ _ (.undef _)
  | func f => exact .fn f [] [] #[] #[] rfl rfl (fun i v hv => by simp at hv) (fun i v hv => by simp at hv)

/-! ## Runs -/

theorem run_isAgg {t : TypeId} {d : TypeDesc} (h : P.underlying t = some d) (w : World) : (isAgg t).run P w = .ok (match d with | .struct _ | .array _ _ => true | _ => false) w := by
  unfold isAgg
  rw [Sem.run_bind, run_underlying h]
  cases d <;> rfl

theorem run_sizeOf {t : TypeId} {i : TypeInfo} (h : P.info? t = some i) (w : World) : (sizeOf t).run P w = .ok i.size w := by
  simp [sizeOf, typeInfo, h]

theorem run_zeroValue {t : TypeId} {i : TypeInfo} {z : Value} (h : P.info? t = some i) (hz : i.zero = some z) (w : World) : (zeroValue t).run P w = .ok z w := by
  simp [zeroValue, typeInfo, h, hz]

theorem TabOK.isAgg (hT : TabOK P T) {t : TypeId} (hd : (T.at t).d ≠ .other) (w : World) : (isAgg t).run P w = .ok (T.at t).d.isAgg w := by
  have h := (hT t).desc
  cases hh : (T.at t).d with
  | sc k => cases k <;> (rw [hh] at h; rw [run_isAgg h]; rfl)
  | str => rw [hh] at h; rw [run_isAgg h]; rfl
  | struct fs => rw [hh] at h; obtain ⟨F, h, _⟩ := h; rw [run_isAgg h]; rfl
  | arr n e => rw [hh] at h; rw [run_isAgg h]; rfl
  | slice e => rw [hh] at h; rw [run_isAgg h]; rfl
  | ptr e => rw [hh] at h; rw [run_isAgg h]; rfl
  | map k e => rw [hh] at h; rw [run_isAgg h]; rfl
  | fnB e => rw [hh] at h; obtain ⟨x, y, z, h⟩ := h; rw [run_isAgg h]; rfl
  | fnL e e' => rw [hh] at h; obtain ⟨x, y, z, h⟩ := h; rw [run_isAgg h]; rfl
  | other => exact absurd hh hd

theorem TabOK.info' (hT : TabOK P T) {t : TypeId} (hd : (T.at t).d ≠ .other) : ∃ ti z, P.info? t = some ti ∧ ti.size = (T.at t).size ∧ ti.bytes ≤ 1024 ∧ ti.zero = some z ∧ z.cells.size = (T.at t).size ∧ 0 < (T.at t).size ∧
    (isFlatTy T t = true → z.cells.toList = zipV (T.at t).ks (zeros (T.at t))) ∧ ((T.at t).d matches .str → z = .string .empty) ∧ (∀ e, (T.at t).d = .slice e → z = .slice none 0 0) := by
  rcases (hT t).info with h | h
  · exfalso; revert h; cases hh : (T.at t).d <;> simp_all
  · exact h

theorem TabOK.size (hT : TabOK P T) {t : TypeId} (hd : (T.at t).d ≠ .other) (w : World) : (sizeOf t).run P w = .ok (T.at t).size w := by
  obtain ⟨ti, z, h1, h2, _⟩ := hT.info' hd
  rw [run_sizeOf h1, h2]

theorem flat_ne (hT : TabOK P T) {t : TypeId} (h : isFlatTy T t = true) : (T.at t).d ≠ .other := by
  intro e
  have := ((hT t).flat h).2
  rw [e] at this
  exact this

theorem flat_len (hT : TabOK P T) {t : TypeId} (h : isFlatTy T t = true) : (T.at t).ks.length = (T.at t).size := ((hT t).flat h).1

theorem flat_pos (hT : TabOK P T) {t : TypeId} (h : isFlatTy T t = true) : 0 < (T.at t).size := by
  obtain ⟨ti, z, _, _, _, _, _, h0, _⟩ := hT.info' (flat_ne hT h)
  exact h0

/-- The cells of a value that fits a type, by value. -/
theorem fits_cells (hT : TabOK P T) {u : TypeId} {v : V} {x : Value} {m : List Int} (hf : fits T u v = true) (hfl : isFlatTy T u = true) (hv : FV T v x) (hm : v.flat = some m) :
    x.cells.toList = zipV (T.at u).ks m ∧ m.length = (T.at u).size ∧ (∀ y ∈ x.cells.toList, y.oneCell' = true) ∧ (match v with | .agg _ _ => (T.at u).d.isAgg = true | _ => (T.at u).d.isAgg = false) := by
  have hks := (hT u).flat hfl
  cases v with
  | int k n =>
    simp only [V.flat, Option.some.injEq] at hm
    subst hm
    simp only [FV] at hv
    subst hv
    simp only [fits] at hf
    split at hf
    · rename_i j hd
      rw [hd] at hks
      have hj : j = k := by cases j <;> cases k <;> simp_all [sameKind]
      subst hj
      have hs : (T.at u).size = 1 := by rw [← hks.1, hks.2]; rfl
      refine ⟨by rw [hks.2]; rfl, by rw [hs]; rfl, by simp [Value.cells, Value.oneCell'], by simp [hd, TyD.isAgg]⟩
    · cases hf
  | bool b =>
    simp only [V.flat, Option.some.injEq] at hm
    subst hm
    simp only [FV] at hv
    subst hv
    simp only [fits] at hf
    split at hf
    · rename_i hd
      rw [hd] at hks
      have hs : (T.at u).size = 1 := by rw [← hks.1, hks.2]; rfl
      refine ⟨by rw [hks.2]; cases b <;> rfl, by rw [hs]; rfl, by simp [Value.cells, Value.oneCell'], by simp [hd, TyD.isAgg]⟩
    · cases hf
  | agg t l =>
    simp only [V.flat, Option.some.injEq] at hm
    subst hm
    simp only [fits] at hf
    have ht := Nat.eq_of_beq_eq_true hf
    subst ht
    obtain ⟨h1, h2, h3, arr, rfl, h4⟩ := hv
    refine ⟨h4, h3, ?_, h1⟩
    intro y hy
    simp only [Value.cells] at hy
    rw [h4] at hy
    have key : ∀ (ks : List SK) (l : List Int), ∀ y ∈ zipV ks l, y.oneCell' = true := by
      intro ks
      induction ks with
      | nil => intro l y hy; cases l <;> simp [zipV] at hy
      | cons k ks ih =>
        intro l y hy
        cases l with
        | nil => simp [zipV] at hy
        | cons n l =>
          simp only [zipV, List.mem_cons] at hy
          rcases hy with rfl | hy
          · cases k <;> rfl
          · exact ih l y hy
    exact key _ _ y hy
  | _ => simp [V.flat] at hm

theorem flat_FV {v : V} {u : Value} {m : List Int} (h : LV P T w Fr blk ρ v u) (hm : v.flat = some m) : FV T v u := by
  cases v with
  | int k n => exact h.int_inv
  | bool b => exact h.bool_inv
  | agg t l => exact h.agg_inv
  | _ => simp [V.flat] at hm

end Go.Ev
end

section
/- Loads, addresses, parts of values. -/
namespace Go.Ev
open Go.RowKit (Below)

variable {P : Program} {T : Tab} {w0 w : World} {M : Nat → Prop} {ρ : Nat → Loc} {N : Nat → Loc × Blk} {s : St} {a : Act} {Fr : Nat → Prop} {blk : Nat → Option Blk}

/-! ## Parts of a payload -/

theorem rds_length (l : List Int) (off : Nat) : ∀ (n j : Nat), (rds l off j n).length = n := by
  intro n
  induction n with
  | zero => intro j; rfl
  | succ n ih => intro j; simp [rds, ih]

theorem rd_rds (l : List Int) (off : Nat) : ∀ (n j i : Nat), i < n → rd (rds l off j n) i = rd l (off + (j + i)) := by
  intro n
  induction n with
  | zero => intro j i h; omega
  | succ n ih =>
    intro j i h
    cases i with
    | zero => rfl
    | succ i =>
      rw [rds, rd_cons_succ, ih (j + 1) i (by omega)]
      congr 1
      omega

theorem win_length (l : List Int) (off n : Nat) (h : off + n ≤ l.length) : (win l off n).length = n := by
  simp [win]; omega

theorem rd_win (l : List Int) (off n i : Nat) (h : i < n) : rd (win l off n) i = rd l (off + i) := by
  simp only [rd, win, List.getD_eq_getElem?_getD]
  rw [List.getElem?_take, if_pos h, List.getElem?_drop]

def payI (ti : TyI) (t : TypeId) (t0 : Option TypeId) (l : List Int) (off : Nat) : List Int :=
  cond (Nat.ble ti.size 8) (rds l off 0 ti.size) (cond (rootEq t0 t off) l (win l off ti.size))

theorem rootEq_true {t0 : Option TypeId} {t : TypeId} {off : Nat} (h : rootEq t0 t off = true) : t0 = some t ∧ off = 0 := by
  cases t0 with
  | none => simp [rootEq] at h
  | some u =>
    simp only [rootEq, Bool.and_eq_true] at h
    exact ⟨by rw [Nat.eq_of_beq_eq_true h.1], Nat.eq_of_beq_eq_true h.2⟩

theorem payI_spec {ti : TyI} {t : TypeId} {t0 : Option TypeId} {l : List Int} {off : Nat} (hl : off + ti.size ≤ l.length) (hr : t0 = some t → off = 0 → l.length = ti.size) :
    (payI ti t t0 l off).length = ti.size ∧ ∀ i, i < ti.size → rd (payI ti t t0 l off) i = rd l (off + i) := by
  unfold payI
  cases h1 : Nat.ble ti.size 8 with
  | true => exact ⟨rds_length _ _ _ _, fun i hi => by rw [cond_true, rd_rds _ _ _ _ _ hi]; congr 1; omega⟩
  | false =>
    cases h2 : rootEq t0 t off with
    | true =>
      obtain ⟨e1, e2⟩ := rootEq_true h2
      exact ⟨hr e1 e2, fun i hi => by rw [cond_false, cond_true, e2, Nat.zero_add]⟩
    | false => exact ⟨win_length _ _ _ hl, fun i hi => rd_win _ _ _ _ hi⟩

theorem mk_FV (sk : SK) (n : Int) : FV T (sk.mk n) (sk.val n) := by cases sk <;> rfl

/-- A part of an aggregate, or a load: the value that the payload gives. -/
theorem loadI_FV (hT : TabOK P T) {t : TypeId} {t0 : Option TypeId} {l : List Int} {off : Nat} (hfl : isFlatTy T t = true) (hl : off + (T.at t).size ≤ l.length) (hr : t0 = some t → off = 0 → l.length = (T.at t).size) :
    ((T.at t).d.isAgg = false → ∃ sk, (T.at t).ks = [sk] ∧ (T.at t).d = .sc sk ∧ FV T (loadI (T.at t) t t0 l off) (sk.val (rd l off))) ∧
    ((T.at t).d.isAgg = true → ∀ arr : Array Value, arr.size = (T.at t).size → (∀ j, j < (T.at t).size → arr[j]? = some ((kindAt (T.at t).ks j).val (rd l (off + j)))) → FV T (loadI (T.at t) t t0 l off) (.agg arr)) := by
  have hks := (hT t).flat hfl
  constructor
  · intro ha
    cases hd : (T.at t).d with
    | sc sk =>
      rw [hd] at hks
      refine ⟨sk, hks.2, rfl, ?_⟩
      unfold loadI
      rw [hd]
      exact mk_FV _ _
    | struct fs => rw [hd] at ha; cases ha
    | arr n e => rw [hd] at ha; cases ha
    | _ => rw [hd] at hks; exact hks.2.elim
  · intro ha arr hsz harr
    obtain ⟨p1, p2⟩ := payI_spec (ti := T.at t) (t := t) (t0 := t0) hl hr
    have hload : loadI (T.at t) t t0 l off = .agg t (payI (T.at t) t t0 l off) := by
      unfold loadI payI
      cases hd : (T.at t).d with
      | sc sk => rw [hd] at ha; cases ha
      | _ => rfl
    rw [hload]
    refine ⟨ha, hfl, p1, arr, rfl, ?_⟩
    apply List.ext_getElem?
    intro j
    by_cases hj : j < (T.at t).size
    · rw [zipV_getElem? _ _ _ (by rw [hks.1, p1]) (by rw [p1]; exact hj), p2 j hj, Array.getElem?_toList, harr j hj, kindAt_lt (by rw [hks.1]; exact hj)]
    · rw [List.getElem?_eq_none (by simp; omega), List.getElem?_eq_none (by rw [zipV_length _ _ (by rw [hks.1, p1]), p1]; omega)]

theorem run_load_cell {x : Addr} {u : Value} (h : w.cell? x = some u) : (load x).run P w = .ok u w := by
  simp [h]

/-- A load of a flat type at a place whose cells are known. -/
theorem run_loadVar_flat (hT : TabOK P T) {t : TypeId} {t0 : Option TypeId} {l : List Int} {off b o : Nat} (hfl : isFlatTy T t = true) (hl : off + (T.at t).size ≤ l.length) (hr : t0 = some t → off = 0 → l.length = (T.at t).size)
    (hc : CellsAt w b o (T.at t).ks l off (T.at t).size) : ∃ u, (loadVar t ⟨b, o, none⟩).run P w = .ok u w ∧ FV T (loadI (T.at t) t t0 l off) u := by
  have hne := flat_ne hT hfl
  have hks := (hT t).flat hfl
  obtain ⟨f1, f2⟩ := loadI_FV hT (t0 := t0) hfl hl hr
  cases ha : (T.at t).d.isAgg with
  | false =>
    obtain ⟨sk, e1, e2, e3⟩ := f1 ha
    refine ⟨_, ?_, e3⟩
    have hs : (T.at t).size = 1 := by rw [← hks.1, e1]; rfl
    have h0 := hc 0 (by omega)
    rw [e1] at h0
    simp only [Nat.add_zero, kindAt, List.length_singleton, Nat.mod_one, List.getD_cons_zero] at h0
    unfold loadVar
    rw [Sem.run_bind, TabOK.isAgg hT hne, ha]
    simp only [Result.andThen_ok, Bool.false_eq_true, if_false]
    exact run_load_cell h0
  | true =>
    let cs : List Value := (List.range (T.at t).size).map fun j => (kindAt (T.at t).ks j).val (rd l (off + j))
    have hcs : cs.length = (T.at t).size := by simp [cs]
    have hget : ∀ j, j < (T.at t).size → cs[j]? = some ((kindAt (T.at t).ks j).val (rd l (off + j))) := by
      intro j hj
      simp [cs, hj]
    refine ⟨.agg cs.toArray, ?_, f2 ha _ (by simpa using hcs) fun j hj => by rw [List.getElem?_toArray]; exact hget j hj⟩
    unfold loadVar
    rw [Sem.run_bind, TabOK.isAgg hT hne, ha]
    simp only [Result.andThen_ok, if_true]
    rw [Sem.run_bind, TabOK.size hT hne]
    simp only [Result.andThen_ok]
    rw [Sem.run_bind]
    have hrun := run_loadCells_list (P := P) w ⟨b, o, none⟩ cs (by
      intro j v hj
      have hj' : j < (T.at t).size := by
        rcases Nat.lt_or_ge j cs.length with hx | hx
        · omega
        · rw [List.getElem?_eq_none hx] at hj; cases hj
      rw [hget j hj'] at hj
      injection hj with hj
      subst hj
      have hadd : (⟨b, o, none⟩ : Addr).add j = ⟨b, o + j, none⟩ := by unfold Addr.add; split <;> simp_all
      rw [hadd]
      exact hc j hj')
    rw [hcs] at hrun
    rw [hrun]
    rfl

theorem run_loadVar_one (hT : TabOK P T) {t : TypeId} {b o : Nat} {u : Value} (hne : (T.at t).d ≠ .other) (ha : (T.at t).d.isAgg = false) (hc : w.cell? ⟨b, o, none⟩ = some u) : (loadVar t ⟨b, o, none⟩).run P w = .ok u w := by
  unfold loadVar
  rw [Sem.run_bind, TabOK.isAgg hT hne, ha]
  simp only [Result.andThen_ok, Bool.false_eq_true, if_false]
  exact run_load_cell hc

end Go.Ev
end

