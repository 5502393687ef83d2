import Derived.Calls
import Derived.LoopN
import Derived.Orders
import Derived.Below
import Derived.Laws.Append
import Derived.Laws.AppendOwn
set_option linter.unusedVariables false
set_option linter.unusedSimpArgs false
section
/- An evaluator over the kit's code. Values are plain data; memory is local to a function; slices, pointers and closures are handed to callees by value. Definitions alone. -/
namespace Go.Ev

/-! ## Types as the evaluator sees them -/

inductive SK
  | int (k : IntKind)
  | bool

def SK.val : SK → Int → Value
  | .int k, n => .int k n
  | .bool, n => .bool (n != 0)

inductive TyD
  | sc (s : SK)
  | str
  | struct (fs : List (Nat × TypeId))
  | arr (n : Nat) (e : TypeId)
  | slice (e : TypeId)
  | ptr (e : TypeId)
  | fnB (a : TypeId)
  | fnL (a e : TypeId)
  | map (k e : TypeId)
  | other

/-- `size` in cells; `ks` the kinds of the cells where all are integers or bools, else empty. -/
structure TyI where
  d : TyD
  size : Nat
  ks : List SK

abbrev Tab := List (Nat × TyI)

def look {α : Type} (dflt : α) : List (Nat × α) → Nat → α
  | [], _ => dflt
  | (i, v) :: r, t => cond (Nat.beq i t) v (look dflt r t)

def Tab.at (T : Tab) (t : TypeId) : TyI := look ⟨.other, 0, []⟩ T t

def TyI.flat (i : TyI) : Bool := match i.ks with | [] => false | _ => true

def isFlatTy (T : Tab) (t : TypeId) : Bool := (T.at t).flat

def known (T : Tab) (t : TypeId) : Bool := match (T.at t).d with
  | .other => false
  | _ => true

/-! ## Values -/

/-- The cells of a variable that is no row of numbers. -/
inductive OC
  | i (k : IntKind) (n : Int)
  | b (b : Bool)
  | s (b : ByteArray)
  | sl (e : TypeId) (l : List Int)
  | m (t : TypeId) (es : List (List Int × Int))
  | u

inductive V
  | undef
  | skip
  | nil
  | bool (b : Bool)
  | int (k : IntKind) (n : Int)
  | str (s : ByteArray)
  | agg (t : TypeId) (l : List Int)
  | tup (vs : List V)
  | ptr (k : Nat) (off : Nat) (t : TypeId)
  | slw (k : Nat) (e : TypeId)
  | sl (k : Nat) (off len : Nat) (e : TypeId)
  | pvi (t0 : Option TypeId) (l : List Int) (off : Nat) (t : TypeId)
  | pvv (vs : List V) (off : Nat) (t : TypeId)
  | pvr (e : TypeId) (xss : List (List Int)) (i : Nat)
  | slv (e : TypeId) (l : List Int)
  | slr (e : TypeId) (xss : List (List Int))
  | fn (f : FuncId) (first cap : List V)
  | cloB (a : TypeId) (g : List Int → Option Bool)
  | cloL (a e : TypeId) (g : List Int → Option (List Int))
  | mapk (k : Nat) (t : TypeId)
  | mapc (k i : Nat) (t : TypeId)
  | mapv (t : TypeId) (es : List (List Int × Int))
  | row (k i : Nat) (e : TypeId)
  | ptrr (k i off : Nat) (t : TypeId)
  | reco (t : TypeId) (cs : List OC)
  | pvo (cs : List OC) (off : Nat) (t : TypeId)
  | ownR (e e' : TypeId) (xss : List (List Int))
  | ownM (t : TypeId) (es : List (List Int × Int))
  | ownO (t : TypeId) (cs : List OC)

inductive D
  | ints (l : List Int)
  | rows (xss : List (List Int))
  | vals (vs : List V)
  | mapI (es : List (List Int × Int))
  | mapS (es : List (List Int × ByteArray))
  | orows (e' : TypeId) (xss : List (List Int))
  | obj (cs : List OC)

/-- A block: a variable of type e (r), or the array behind slices of elements e. -/
structure Blk where
  e : TypeId
  r : Bool
  d : D

def Blk.root (b : Blk) : Option TypeId := cond b.r (some b.e) none

structure St where
  n : Nat
  env : List (Nat × V)
  own : List (Nat × Option Blk)

def rd (l : List Int) (i : Nat) : Int := l.getD i 0
def rdr (xss : List (List Int)) (i : Nat) : List Int := xss.getD i []
def win (l : List Int) (off n : Nat) : List Int := (l.drop off).take n
def rds (l : List Int) (off : Nat) : Nat → Nat → List Int
  | _, 0 => []
  | j, n + 1 => rd l (off + j) :: rds l off (j + 1) n
def rdo (cs : List OC) (i : Nat) : OC := cs.getD i .u
def rdos (cs : List OC) (off : Nat) : Nat → Nat → List OC
  | _, 0 => []
  | j, n + 1 => rdo cs (off + j) :: rdos cs off (j + 1) n
def setO : List OC → Nat → List OC → List OC
  | l, _, [] => l
  | l, off, x :: r => setO (l.set off x) (off + 1) r
def setWin (l : List Int) (off n : Nat) (m : List Int) : List Int := l.take off ++ (m ++ l.drop (off + n))
def setAt : List Int → Nat → List Int → List Int
  | l, _, [] => l
  | l, off, x :: r => setAt (l.set off x) (off + 1) r
def eqL : List Int → List Int → Bool
  | [], [] => true
  | a :: x, b :: y => a == b && eqL x y
  | _, _ => false
def cnt (sz : Nat) (l : List Int) : Nat := l.length / sz

/-! ### Maps -/

def hasK {α : Type} : List (List Int × α) → List Int → Bool
  | [], _ => false
  | (k, _) :: r, q => eqL q k || hasK r q
def lookK {α : Type} (d : α) : List (List Int × α) → List Int → α
  | [], _ => d
  | (k, v) :: r, q => cond (eqL q k) v (lookK d r q)
def putK {α : Type} : List (List Int × α) → List Int → α → List (List Int × α)
  | [], q, v => [(q, v)]
  | (k, x) :: r, q, v => cond (eqL q k) ((k, v) :: r) ((k, x) :: putK r q v)
def flatten : List (List Int) → List Int
  | [] => []
  | x :: r => x ++ flatten r

mutual
def V.has (k : Nat) : V → Bool
  | .ptr k' _ _ => Nat.beq k' k
  | .slw k' _ => Nat.beq k' k
  | .sl k' _ _ _ => Nat.beq k' k
  | .mapk k' _ => Nat.beq k' k
  | .mapc k' _ _ => Nat.beq k' k
  | .row k' _ _ => Nat.beq k' k
  | .ptrr k' _ _ _ => Nat.beq k' k
  | .tup vs => V.hasL k vs
  | .fn _ a b => V.hasL k a || V.hasL k b
  | _ => false
def V.hasL (k : Nat) : List V → Bool
  | [] => false
  | v :: r => V.has k v || V.hasL k r
end

mutual
/-- Does a value lead into what lies in block k's cells? -/
def V.deep (k : Nat) : V → Bool
  | .mapc k' _ _ => Nat.beq k' k
  | .row k' _ _ => Nat.beq k' k
  | .ptrr k' _ _ _ => Nat.beq k' k
  | .tup vs => V.deepL k vs
  | .fn _ a b => V.deepL k a || V.deepL k b
  | _ => false
def V.deepL (k : Nat) : List V → Bool
  | [] => false
  | v :: r => V.deep k v || V.deepL k r
end

def St.get (s : St) (t : Nat) : V := look .undef s.env t
def St.blk (s : St) (k : Nat) : Option Blk := look none s.own k
def St.put (s : St) (d : Nat) (v : V) : St := ⟨s.n, (d, v) :: s.env, s.own⟩
def St.setB (s : St) (k : Nat) (b : Blk) : St := ⟨s.n, s.env, (k, some b) :: s.own⟩
def St.drop (s : St) (k : Nat) : St := ⟨s.n, s.env, (k, none) :: s.own⟩
def killE (k : Nat) : List (Nat × V) → List (Nat × V)
  | [] => []
  | (i, v) :: r => (i, cond (V.has k v) .undef v) :: killE k r
def killDE (k : Nat) : List (Nat × V) → List (Nat × V)
  | [] => []
  | (i, v) :: r => (i, cond (V.deep k v) .undef v) :: killDE k r
def St.killD (s : St) (k : Nat) : St := ⟨s.n, killDE k s.env, s.own⟩
def St.kill (s : St) (k : Nat) : St := ⟨s.n, killE k s.env, s.own⟩

def SK.mk : SK → Int → V
  | .int k, n => .int k n
  | .bool, n => .bool (n != 0)

def ofConst : Value → V
  | .bool b => .bool b
  | .int k n => .int k n
  | .string s => .str s
  | .slice none 0 0 => .nil
  | _ => .undef

def St.ev (s : St) : Operand → V
  | .tmp t => s.get t
  | .const v => ofConst v
  | .func f => .fn f [] []
  | .global _ => .undef

/-- The payload of a value without references. -/
def V.flat : V → Option (List Int)
  | .bool b => some [cond b 1 0]
  | .int _ n => some [n]
  | .agg _ l => some l
  | _ => none

def rootEq (t0 : Option TypeId) (t : TypeId) (off : Nat) : Bool :=
  match t0 with
  | none => false
  | some u => Nat.beq u t && Nat.beq off 0

/-- What a load of type `t` (described by `ti`) gives out of a flat payload. -/
def loadI (ti : TyI) (t : TypeId) (t0 : Option TypeId) (l : List Int) (off : Nat) : V :=
  match ti.d with
  | .sc s => s.mk (rd l off)
  | _ => .agg t (cond (Nat.ble ti.size 8) (rds l off 0 ti.size) (cond (rootEq t0 t off) l (win l off ti.size)))

def storeI (ti : TyI) (t : TypeId) (t0 : Option TypeId) (l : List Int) (off : Nat) (m : List Int) : List Int :=
  match ti.d with
  | .sc _ => l.set off (rd m 0)
  | _ => cond (rootEq t0 t off) m (setWin l off ti.size m)

def sameSK : SK → SK → Bool
  | .int j, .int k => (match j, k with
    | .i8, .i8 | .i16, .i16 | .i32, .i32 | .i64, .i64 | .u8, .u8 | .u16, .u16 | .u32, .u32 | .u64, .u64 => true
    | _, _ => false)
  | .bool, .bool => true
  | _, _ => false

/-- A cell of a kind, as a number. -/
def ocInt (k : SK) : OC → Option Int
  | .i j n => cond (sameSK k (.int j)) (some n) none
  | .b x => cond (sameSK k .bool) (some (cond x 1 0)) none
  | _ => none
def ocInts (cs : List OC) : Nat → List SK → Option (List Int)
  | _, [] => some []
  | off, k :: r => match ocInt k (rdo cs off), ocInts cs (off + 1) r with
    | some n, some l => some (n :: l)
    | _, _ => none
def ocMk : SK → Int → OC
  | .int k, n => .i k n
  | .bool, n => .b (n != 0)
def ocMks : List SK → List Int → List OC
  | k :: ks, n :: l => ocMk k n :: ocMks ks l
  | _, _ => []
def noMap : OC → Bool
  | .m _ _ => false
  | _ => true

/-- What a load of type t gives out of such cells; ow: whose they are. -/
def loadO (T : Tab) (ow : Option Nat) (t : TypeId) (cs : List OC) (off : Nat) : Option V :=
  match (T.at t).flat with
  | true => match ocInts cs off (T.at t).ks with
    | some l => match (T.at t).d with
      | .sc s => some (s.mk (rd l 0))
      | _ => some (.agg t l)
    | none => none
  | false => match (T.at t).d with
    | .struct _ => cond (Nat.ble (off + (T.at t).size) cs.length && (rdos cs off 0 (T.at t).size).all noMap) (some (.reco t (rdos cs off 0 (T.at t).size))) none
    | .str => match rdo cs off with
      | .s b => some (.str b)
      | _ => none
    | .slice e => match rdo cs off with
      | .sl e' l => cond (Nat.beq e' e) (some (.slv e l)) none
      | _ => none
    | .map _ _ => match rdo cs off with
      | .m t' es => cond (Nat.beq t' t) (match ow with
        | some k => some (.mapc k off t)
        | none => some (.mapv t es)) none
      | _ => none
    | _ => none

def TyD.isAgg : TyD → Bool
  | .struct _ | .arr _ _ => true
  | _ => false

def zeros (ti : TyI) : List Int := List.replicate ti.size 0

def zeroO1 (T : Tab) (t : TypeId) : List OC :=
  match (T.at t).flat with
  | true => ocMks (T.at t).ks (List.replicate (T.at t).size 0)
  | false => match (T.at t).d with
    | .str => [.s .empty]
    | .slice e => cond (T.at e).flat [.sl e []] [.u]
    | _ => List.replicate (T.at t).size .u
def zeroFs (T : Tab) : List (Nat × TypeId) → List OC
  | [] => []
  | f :: r => zeroO1 T f.2 ++ zeroFs T r

/-- The outcome of an operation that calls nothing: what must hold, and the state behind it. -/
inductive Out
  | bad
  | ok (b : Bool) (s : St)

def bigLen : Nat := 4294967296

def sameKind (j k : IntKind) : Bool := match j, k with
  | .i8, .i8 | .i16, .i16 | .i32, .i32 | .i64, .i64 | .u8, .u8 | .u16, .u16 | .u32, .u32 | .u64, .u64 => true
  | _, _ => false

/-- May the value lie in a variable of type u (without references)? -/
def fits (T : Tab) (u : TypeId) (v : V) : Bool :=
  match v with
  | .int k _ => match (T.at u).d with
    | .sc (.int j) => sameKind j k
    | _ => false
  | .bool _ => match (T.at u).d with
    | .sc .bool => true
    | _ => false
  | .agg t _ => Nat.beq t u
  | _ => false

def partsOf (s : St) : List (Nat × Operand) → List (Nat × V)
  | [] => []
  | (i, x) :: r => (i, s.ev x) :: partsOf s r

def placeAll (T : Tab) (place : Nat → Option (Nat × TypeId)) : List Int → List (Nat × V) → Option (List Int)
  | l, [] => some l
  | l, (i, v) :: r =>
    match place i, v.flat with
    | some (off, u), some m => cond (fits T u v && (isFlatTy T u && Nat.ble (off + (T.at u).size) l.length)) (placeAll T place (setAt l off m) r) none
    | _, _ => none

/-- A part of a struct that is no row of numbers, as cells. -/
def ocOf (T : Tab) (u : TypeId) (v : V) : Option (List OC) :=
  match v with
  | .str b => (match (T.at u).d with
    | .str => some [.s b]
    | _ => none)
  | .slv e l => (match (T.at u).d with
    | .slice e' => cond (Nat.beq e e' && (T.at e).flat) (some [.sl e l]) none
    | _ => none)
  | .nil => (match (T.at u).d with
    | .slice e' => cond (T.at e').flat (some [.sl e' []]) none
    | _ => none)
  | .reco t cs => cond (Nat.beq t u && Nat.beq cs.length (T.at u).size) (some cs) none
  | v => cond (fits T u v && isFlatTy T u) (match v.flat with
    | some l => some (ocMks (T.at u).ks l)
    | none => none) none

def placeO (T : Tab) (fs : Nat → Option (Nat × TypeId)) : List OC → List (Nat × V) → Option (List OC)
  | l, [] => some l
  | l, (i, v) :: r =>
    match fs i with
    | some (off, u) => match ocOf T u v with
      | some m => cond (Nat.beq m.length (T.at u).size && Nat.ble (off + (T.at u).size) l.length) (placeO T fs (setO l off m) r) none
      | none => none
    | none => none

def fieldOf : List (Nat × TypeId) → Nat → Option (Nat × TypeId)
  | [], _ => none
  | f :: _, 0 => some f
  | _ :: r, n + 1 => fieldOf r n

def arith (op : BinOp) (k : IntKind) (a b : Int) : Option (Bool × V) :=
  match op with
  | .add => some (true, .int k (k.wrap (a + b)))
  | .sub => some (true, .int k (k.wrap (a - b)))
  | .mul => some (true, .int k (k.wrap (a * b)))
  | .quo => some (b != 0, .int k (k.wrap (a.tdiv b)))
  | .rem => some (b != 0, .int k (a.tmod b))
  | .and => some (true, .int k (k.wrap ((BitVec.ofInt k.bits a &&& BitVec.ofInt k.bits b).toNat : Int)))
  | .or => some (true, .int k (k.wrap ((BitVec.ofInt k.bits a ||| BitVec.ofInt k.bits b).toNat : Int)))
  | .xor => some (true, .int k (k.wrap ((BitVec.ofInt k.bits a ^^^ BitVec.ofInt k.bits b).toNat : Int)))
  | .andNot => some (true, .int k (k.wrap ((BitVec.ofInt k.bits a &&& ~~~ BitVec.ofInt k.bits b).toNat : Int)))
  | .eql => some (true, .bool (a == b))
  | .neq => some (true, .bool (a != b))
  | .lss => some (true, .bool (decide (a < b)))
  | .leq => some (true, .bool (decide (a ≤ b)))
  | .gtr => some (true, .bool (decide (a > b)))
  | .geq => some (true, .bool (decide (a ≥ b)))
  | _ => none

def shiftV (op : BinOp) (k : IntKind) (a b : Int) : Option (Bool × V) :=
  match op with
  | .shl => some (decide (0 ≤ b), .int k (k.wrap (a * 2 ^ (min b.toNat k.bits))))
  | .shr => some (decide (0 ≤ b), .int k (a.fdiv (2 ^ (min b.toNat k.bits))))
  | _ => none

def isBoolD : TyD → Bool
  | .sc .bool => true
  | _ => false

/-- May values of this type be compared cell by cell? -/
def eqTy (T : Tab) : Nat → TypeId → Bool
  | 0, _ => false
  | n + 1, t => match (T.at t).d with
    | .sc (.int _) => true
    | .struct fs => isFlatTy T t && fs.all fun f => eqTy T n f.2
    | _ => false

/-- May values of this type be keys? -/
def keyTy (T : Tab) : Nat → TypeId → Bool
  | 0, _ => false
  | n + 1, t => match (T.at t).d with
    | .sc (.int _) => true
    | .struct fs => isFlatTy T t && fs.all fun f => keyTy T n f.2
    | .arr _ e => isFlatTy T t && keyTy T n e
    | _ => false

def binV (T : Tab) (ty : TypeId) (op : BinOp) (x y : V) : Option (Bool × V) :=
  match x, y with
  | .int k a, .int j b =>
    match op with
    | .shl | .shr => shiftV op k a b
    | _ => cond (sameKind k j) (arith op k a b) none
  | .bool a, .bool b =>
    cond (isBoolD (T.at ty).d) (match op with
    | .eql => some (true, .bool (a == b))
    | .neq => some (true, .bool (!(a == b)))
    | _ => none) none
  | .str a, .str b =>
    match op with
    | .eql => some (true, .bool (a.toList == b.toList))
    | .neq => some (true, .bool (!(a.toList == b.toList)))
    | .add => some (decide (a.size + b.size ≤ bigLen), .str (a ++ b))
    | _ => none
  | .agg t a, .agg u b =>
    cond (Nat.beq t ty && (Nat.beq u ty && eqTy T 5 ty)) (match op with
    | .eql => some (true, .bool (eqL a b))
    | .neq => some (true, .bool (!(eqL a b)))
    | _ => none) none
  | _, _ => none


def hiB (s : St) (n : Nat) : Option Operand → Option (Bool × Nat)
  | none => some (true, n)
  | some x => match s.ev x with
    | .int _ i => some (decide (0 ≤ i) && decide (i ≤ (n : Int)), i.toNat)
    | _ => none

/-- The bounds of a slice expression over something of length n: what must hold, from, to. -/
def bounds (s : St) (n : Nat) (lo hi : Option Operand) : Option (Bool × Nat × Nat) :=
  match hiB s n hi with
  | none => none
  | some (b, m) => match lo with
    | none => some (b, 0, m)
    | some x => match s.ev x with
      | .int _ i => some (b && (decide (0 ≤ i) && decide (i ≤ (m : Int))), i.toNat, m)
      | _ => none

def putOk (b : Bool) (s : St) (d : Nat) (v : V) : Out := .ok b (s.put d v)

def allocB (s : St) (d : Nat) (bk : Blk) (v : V) : Out :=
  match s.blk d with
  | some _ => .bad
  | none => .ok true ((s.setB d bk).put d v)

/-- The contents of a slice: the element type, the cells. -/
def contents (T : Tab) (s : St) : V → Option (TypeId × D)
  | .slv e l => some (e, .ints l)
  | .slr e l => some (e, .rows l)
  | .slw k e => match s.blk k with
    | some bk => some (e, bk.d)
    | none => none
  | .sl k off len e => match s.blk k with
    | some ⟨_, _, .ints l⟩ => some (e, .ints (win l off (len * (T.at e).size)))
    | _ => none
  | .row k i e => match s.blk k with
    | some ⟨_, _, .orows e' xss⟩ => cond (Nat.beq e' e) (some (e, .ints (rdr xss i))) none
    | _ => none
  | _ => none

def D.len : D → Nat
  | .ints l => l.length
  | .rows l => l.length
  | .vals l => l.length
  | .mapI _ => 0
  | .mapS _ => 0
  | .orows _ l => l.length
  | .obj l => l.length

def D.cat : D → D → Option D
  | .ints a, .ints b => some (.ints (a ++ b))
  | .rows a, .rows b => some (.rows (a ++ b))
  | _, _ => none

/-- A map's contents: its type. -/
def mapOf (s : St) : V → Option (TypeId × D)
  | .mapk k t => match s.blk k with
    | some ⟨_, _, .mapI es⟩ => some (t, .mapI es)
    | some ⟨_, _, .mapS es⟩ => some (t, .mapS es)
    | _ => none
  | .mapc k i t => match s.blk k with
    | some ⟨_, _, .obj cs⟩ => match rdo cs i with
      | .m _ es => some (t, .mapI es)
      | _ => none
    | _ => none
  | .mapv t es => some (t, .mapI es)
  | _ => none

/-- How many elements a slice has. -/
def lenV (T : Tab) (s : St) (v : V) : Option Nat :=
  match v with
  | .sl _ _ len _ => some len
  | .nil => some 0
  | _ => match contents T s v with
    | some (e, .ints l) => some (cnt (T.at e).size l)
    | some (_, .rows l) => some l.length
    | some (_, .orows _ l) => some l.length
    | _ => none

def addrOf (T : Tab) (s : St) (t : TypeId) (x : V) (i : Int) : Option (Bool × V) :=
  match (T.at t).d with
  | .arr n e =>
    let b := decide (0 ≤ i) && decide (i < (n : Int))
    cond (known T e) (match x with
    | .ptr k off u => cond (Nat.beq u t) (some (b, .ptr k (off + i.toNat * (T.at e).size) e)) none
    | .pvi _ l off u => cond (Nat.beq u t) (some (b, .pvi none l (off + i.toNat * (T.at e).size) e)) none
    | _ => none) none
  | .slice e =>
    match lenV T s x with
    | none => none
    | some n =>
      let b := decide (0 ≤ i) && decide (i < (n : Int))
      cond (known T e) (match x with
      | .slv u l => cond (Nat.beq u e) (some (b, .pvi none l (i.toNat * (T.at e).size) e)) none
      | .slr u l => cond (Nat.beq u e) (some (b, .pvr e l i.toNat)) none
      | .row k j u => cond (Nat.beq u e) (some (b, .ptrr k j (i.toNat * (T.at e).size) e)) none
      | .slw k u => cond (Nat.beq u e) (some (b, .ptr k (i.toNat * (T.at e).size) e)) none
      | .sl k off _ u => cond (Nat.beq u e) (some (b, .ptr k (off + i.toNat * (T.at e).size) e)) none
      | _ => none) none
  | _ => none

def loadV (T : Tab) (s : St) (t : TypeId) (p : V) : Option V :=
  match p with
  | .ptr k off u => cond (Nat.beq u t) (match s.blk k with
    | some ⟨t0, r, .ints l⟩ => cond (isFlatTy T t) (some (loadI (T.at t) t (Blk.root ⟨t0, r, .ints l⟩) l off)) none
    | some ⟨_, _, .vals vs⟩ => cond (known T t && !(T.at t).d.isAgg) vs[off]? none
    | some ⟨_, _, .rows l⟩ => match (T.at t).d with
      | .slice e => some (.slv e (rdr l off))
      | _ => none
    | some ⟨_, _, .orows e' _⟩ => match (T.at t).d with
      | .slice e => cond (Nat.beq e' e) (some (.row k off e)) none
      | _ => none
    | some ⟨_, _, .obj cs⟩ => loadO T (some k) t cs off
    | _ => none) none
  | .ptrr k i off u => cond (Nat.beq u t && isFlatTy T t) (match s.blk k with
    | some ⟨_, _, .orows _ xss⟩ => some (loadI (T.at t) t none (rdr xss i) off)
    | _ => none) none
  | .pvo cs off u => cond (Nat.beq u t) (loadO T none t cs off) none
  | .pvi t0 l off u => cond (Nat.beq u t && isFlatTy T t) (some (loadI (T.at t) t t0 l off)) none
  | .pvv vs off u => cond (Nat.beq u t && (known T t && !(T.at t).d.isAgg)) vs[off]? none
  | .pvr u l i => cond (Nat.beq u t) (match (T.at t).d with
    | .slice e => some (.slv e (rdr l i))
    | _ => none) none
  | _ => none

def minI (a b : Int) : Int := if b < a then b else a
def maxI (a b : Int) : Int := if b > a then b else a

/-- What copy makes of contents l, from place off on, of room for n elements. -/
def copyI (sz : Nat) (l : List Int) (off n : Nat) (q : List Int) : List Int := setWin l off (min (cnt sz q) n * sz) (q.take (min (cnt sz q) n * sz))

def rowsOf (T : Tab) (s : St) (e' : TypeId) : List (Nat × Operand) → Nat → Option (List (List Int) × List Nat)
  | [], _ => some ([], [])
  | (i, x) :: r, j => cond (Nat.beq i j) (match contents T s (s.ev x), rowsOf T s e' r (j + 1) with
      | some (e1, .ints l), some (q, ks) => cond (Nat.beq e1 e') (some (l :: q, match s.ev x with | .slw k _ => k :: ks | .sl k _ _ _ => k :: ks | .row k _ _ => k :: ks | _ => ks)) none
      | _, _ => none) none

/-- Rows that are all slices of one's own. -/
def orowsOf (s : St) (e' : TypeId) : List (Nat × Operand) → Nat → Option (List (List Int) × List Nat)
  | [], _ => some ([], [])
  | (i, x) :: r, j => cond (Nat.beq i j) (match s.ev x with
      | .slw k e1 => match s.blk k, orowsOf s e' r (j + 1) with
        | some ⟨e0, false, .ints l⟩, some (q, ks) => cond (Nat.beq e1 e' && (Nat.beq e0 e' && Nat.blt k s.n)) (some (l :: q, k :: ks)) none
        | _, _ => none
      | _ => none) none

def dropAll (s : St) : List Nat → St
  | [] => s
  | k :: r => dropAll ((s.kill k).drop k) r

def distinct : List Nat → Bool
  | [] => true
  | k :: r => !(r.any (Nat.beq k)) && distinct r

def isSliceOf (T : Tab) (t e : TypeId) : Bool :=
  match (T.at t).d with
  | .slice e' => Nat.beq e' e
  | _ => false

def isSliceD : TyD → Bool
  | .slice _ => true
  | _ => false

def isStrD : TyD → Bool
  | .str => true
  | _ => false

/-- Rows of one's own put behind rows of one's own. -/
def appendO (T : Tab) (s : St) (d : Nat) (t u : TypeId) (x y : V) : Option Out :=
  match x, y with
  | .slw k e, .slw k2 e2 => match s.blk k, s.blk k2 with
    | some ⟨e0, false, .orows e1 xs⟩, some ⟨e3, false, .orows e4 ys⟩ =>
      some (cond (Nat.blt k s.n && (Nat.blt k2 s.n && (!(Nat.beq k k2) && (Nat.beq e0 e && (Nat.beq e2 e && (Nat.beq e3 e && (Nat.beq e4 e1 && (isSliceOf T t e && isSliceOf T u e))))))))
        (.ok (decide (xs.length + ys.length ≤ bigLen)) (((((s.kill k2).drop k2).kill k).setB k ⟨e, false, .orows e1 (xs ++ ys)⟩).put d (.slw k e))) .bad)
    | _, _ => none
  | _, _ => none

def isMapD : TyD → Bool
  | .map _ _ => true
  | _ => false

def lenMap (T : Tab) (s : St) (d : Nat) (t : TypeId) (x : V) : Out :=
  cond (isMapD (T.at t).d) (match mapOf s x with
    | some (_, .mapI es) => putOk true s d (.int .i64 es.length)
    | some (_, .mapS es) => putOk true s d (.int .i64 es.length)
    | _ => .bad) .bad

def LATERstoreOrow (_T : Tab) (_s : St) (_t : TypeId) (_k _off : Nat) (_x : Operand) : Out := .bad
def LATERstoreR (_T : Tab) (_s : St) (_t : TypeId) (_k _i _off : Nat) (_v : V) : Out := .bad

/-- A key: a value without references. -/
def keyL (T : Tab) (kt : TypeId) (v : V) : Option (List Int) := cond (fits T kt v && isFlatTy T kt) (match v with
  | .agg _ l => cond (keyTy T 5 kt) (some l) none
  | _ => none) none

def lookupV (T : Tab) (s : St) (d : Nat) (t : TypeId) (m x : V) (ok : Bool) : Out :=
  match (T.at t).d, mapOf s m with
  | .map kt et, some (u, c) => cond (Nat.beq u t) (match keyL T kt x with
    | some k => match c with
      | .mapI es => (match (T.at et).d with
        | .sc sk => putOk true s d (cond ok (.tup [sk.mk (lookK 0 es k), .bool (hasK es k)]) (sk.mk (lookK 0 es k)))
        | _ => .bad)
      | .mapS es => (match (T.at et).d with
        | .str => putOk true s d (cond ok (.tup [.str (lookK .empty es k), .bool (hasK es k)]) (.str (lookK .empty es k)))
        | _ => .bad)
      | _ => .bad
    | none => .bad) .bad
  | _, _ => .bad

def makeMapV (T : Tab) (s : St) (d : Nat) (t : TypeId) : Out := match (T.at t).d with
    | .map kt et => cond (isFlatTy T kt && known T et) (match (T.at et).d with
      | .sc _ => allocB s d ⟨t, false, .mapI []⟩ (.mapk d t)
      | .str => allocB s d ⟨t, false, .mapS []⟩ (.mapk d t)
      | _ => .bad) .bad
    | _ => .bad

/-- Operations that call no function; d is the slot that is written. -/
def opR (T : Tab) (s : St) (d : Nat) (op : Op) : Out :=
  match op with
  | .move x | .assign x => putOk true s d (s.ev x)
  | .alloc t =>
    cond (isFlatTy T t) (allocB s d ⟨t, true, .ints (zeros (T.at t))⟩ (.ptr d 0 t))
      (match (T.at t).d with
      | .str => allocB s d ⟨t, true, .vals [.str .empty]⟩ (.ptr d 0 t)
      | .slice _ => allocB s d ⟨t, true, .vals [.nil]⟩ (.ptr d 0 t)
      | .struct fs => cond (Nat.beq (zeroFs T fs).length (T.at t).size) (allocB s d ⟨t, true, .obj (zeroFs T fs)⟩ (.ptr d 0 t)) .bad
      | .map _ _ => allocB s d ⟨t, true, .obj [.u]⟩ (.ptr d 0 t)
      | _ => .bad)
  | .build t ps =>
    match (T.at t).d with
    | .struct fs => cond (isFlatTy T t) (match placeAll T (fieldOf fs) (zeros (T.at t)) (partsOf s ps.toList) with
        | some l => putOk true s d (.agg t l)
        | none => .bad) (cond (Nat.beq (zeroFs T fs).length (T.at t).size && fs.all fun f => known T f.2) (match placeO T (fieldOf fs) (zeroFs T fs) (partsOf s ps.toList) with
        | some l => putOk true s d (.reco t l)
        | none => .bad) .bad)
    | .arr _ e => cond (isFlatTy T t) (match placeAll T (fun i => some (i * (T.at e).size, e)) (zeros (T.at t)) (partsOf s ps.toList) with
        | some l => putOk true s d (.agg t l)
        | none => .bad) .bad
    | _ => .bad
  | .load t p =>
    match loadV T s t (s.ev p) with
    | some v => putOk true s d v
    | none => .bad
  | .nilCheck x =>
    match s.ev x with
    | .ptr k off t => putOk true s d (.ptr k off t)
    | .pvi t0 l off t => putOk true s d (.pvi t0 l off t)
    | .pvv vs off t => putOk true s d (.pvv vs off t)
    | .pvo cs off t => putOk true s d (.pvo cs off t)
    | _ => .bad
  | .binOp op t x y _ =>
    match binV T t op (s.ev x) (s.ev y) with
    | some (b, v) => putOk b s d v
    | none => .bad
  | .unOp op _ x =>
    match op, s.ev x with
    | .neg, .int k n => putOk true s d (.int k (k.wrap (0 - n)))
    | .not, .bool b => putOk true s d (.bool (!b))
    | _, _ => .bad
  | .convert u t x =>
    match (T.at t).d, s.ev x with
    | .sc (.int k), .int _ n => cond (known T u) (putOk true s d (.int k (k.wrap n))) .bad
    | _, _ => .bad
  | .makeFunc (.func f) first cap => putOk true s d (.fn f (first.toList.map s.ev) (cap.toList.map s.ev))
  | .makeSlice t n c =>
    match (T.at t).d, s.ev n, s.ev c with
    | .slice e, .int _ i, .int _ j => cond (isFlatTy T e) (match s.blk d with
        | some _ => .bad
        | none => .ok (decide (0 ≤ i) && (decide (i ≤ (bigLen : Int)) && (i == j)))
            ((s.setB d ⟨e, false, .ints (List.replicate (i.toNat * (T.at e).size) 0)⟩).put d (.slw d e)))
        (match (T.at e).d, s.blk d with
        | .slice e', none => cond (isFlatTy T e' && Nat.beq (T.at e).size 1) (.ok (decide (0 ≤ i) && (decide (i ≤ (bigLen : Int)) && (i == j)))
            ((s.setB d ⟨e, false, .orows e' (List.replicate i.toNat [])⟩).put d (.slw d e))) .bad
        | _, _ => .bad)
    | _, _, _ => .bad
  | .slice t x lo hi none =>
    match s.ev x with
    | .str b => match (T.at t).d, bounds s b.size lo hi with
      | .str, some (c, l, h) => putOk c s d (.str (b.extract l h))
      | _, _ => .bad
    | .slv e l => cond (isSliceOf T t e) (match bounds s (cnt (T.at e).size l) lo hi with
      | some (c, a, h) => putOk c s d (.slv e (win l (a * (T.at e).size) ((h - a) * (T.at e).size)))
      | none => .bad) .bad
    | .slw k e => cond (isSliceOf T t e && isFlatTy T e) (match lenV T s (.slw k e), s.blk k with
      | some n, some ⟨_, _, .ints _⟩ => match bounds s n lo hi with
        | some (c, a, h) => putOk c s d (.sl k (a * (T.at e).size) (h - a) e)
        | none => .bad
      | _, _ => .bad) .bad
    | .sl k off n e => cond (isSliceOf T t e) (match bounds s n lo hi with
      | some (c, a, h) => putOk c s d (.sl k (off + a * (T.at e).size) (h - a) e)
      | none => .bad) .bad
    | .ptr k off u => cond (Nat.beq u t && isFlatTy T t) (match (T.at t).d, s.blk k with
      | .arr n e, some ⟨_, _, .ints _⟩ => match bounds s n lo hi with
        | some (c, a, h) => cond (Nat.ble n bigLen) (putOk c s d (.sl k (off + a * (T.at e).size) (h - a) e)) .bad
        | none => .bad
      | _, _ => .bad) .bad
    | _ => .bad
  | .fieldAddr t x i =>
    match (T.at t).d with
    | .struct fs => match fieldOf fs i with
      | some (o, u) => cond (known T u) (match s.ev x with
        | .ptr k off t' => cond (Nat.beq t' t) (putOk true s d (.ptr k (off + o) u)) .bad
        | .pvi _ l off t' => cond (Nat.beq t' t) (putOk true s d (.pvi none l (off + o) u)) .bad
        | .pvv vs off t' => cond (Nat.beq t' t) (putOk true s d (.pvv vs (off + o) u)) .bad
        | .pvo cs off t' => cond (Nat.beq t' t) (putOk true s d (.pvo cs (off + o) u)) .bad
        | .ptrr k j off t' => cond (Nat.beq t' t) (putOk true s d (.ptrr k j (off + o) u)) .bad
        | _ => .bad) .bad
      | none => .bad
    | _ => .bad
  | .field t x i =>
    match (T.at t).d with
    | .struct fs => match fieldOf fs i with
      | some (o, u) => match s.ev x with
        | .agg t' l => cond (Nat.beq t' t && isFlatTy T u) (putOk true s d (loadI (T.at u) u none l o)) .bad
        | _ => .bad
      | none => .bad
    | _ => .bad
  | .indexAddr t x i =>
    match s.ev i with
    | .int _ n => match addrOf T s t (s.ev x) n with
      | some (b, v) => putOk b s d v
      | none => .bad
    | _ => .bad
  | .index t x i =>
    match s.ev i with
    | .int _ n => match s.ev x with
      | .agg t' l => cond (Nat.beq t' t) (match (T.at t).d with
        | .arr m e => cond (isFlatTy T e) (putOk (decide (0 ≤ n) && decide (n < (m : Int))) s d (loadI (T.at e) e none l (n.toNat * (T.at e).size))) .bad
        | _ => .bad) .bad
      | .str b => cond (isStrD (T.at t).d) (putOk (decide (0 ≤ n) && decide (n < (b.size : Int))) s d (.int .u8 (b.data.toList.getD n.toNat 0).toNat)) .bad
      | _ => .bad
    | _ => .bad
  | .extract x i =>
    match s.ev x with
    | .tup vs => match vs[i]? with
      | some v => putOk true s d v
      | none => .bad
    | _ => .bad
  | .box t x =>
    match s.ev x with
    | .str b => cond (!(known T t) || (T.at t).d.isAgg) .bad (allocB s d ⟨t, true, .vals [.str b]⟩ (.ptr d 0 t))
    | .slv e l => cond (!(known T t) || (T.at t).d.isAgg) .bad (allocB s d ⟨t, true, .vals [.slv e l]⟩ (.ptr d 0 t))
    | .slr e l => cond (!(known T t) || (T.at t).d.isAgg) .bad (allocB s d ⟨t, true, .vals [.slr e l]⟩ (.ptr d 0 t))
    | .cloB a g => cond (!(known T t) || (T.at t).d.isAgg) .bad (allocB s d ⟨t, true, .vals [.cloB a g]⟩ (.ptr d 0 t))
    | .cloL a e g => cond (!(known T t) || (T.at t).d.isAgg) .bad (allocB s d ⟨t, true, .vals [.cloL a e g]⟩ (.ptr d 0 t))
    | .reco t' cs => cond (Nat.beq t' t && known T t) (allocB s d ⟨t, true, .obj cs⟩ (.ptr d 0 t)) .bad
    | v => cond (fits T t v && isFlatTy T t) (match v.flat with
      | some l => allocB s d ⟨t, true, .ints l⟩ (.ptr d 0 t)
      | none => .bad) .bad
  | .buildSlice t n ps =>
    match (T.at t).d with
    | .slice e =>
      cond (isFlatTy T e)
        (match placeAll T (fun i => some (i * (T.at e).size, e)) (List.replicate (n * (T.at e).size) 0) (partsOf s ps.toList) with
        | some l => cond (Nat.ble (n * (T.at e).size) 16777216) (allocB s d ⟨e, false, .ints l⟩ (.slw d e)) .bad
        | none => .bad)
        (match (T.at e).d with
        | .slice e' => match orowsOf s e' ps.toList 0 with
          | some (q, ks) => cond (Nat.beq q.length n && (distinct ks && (isFlatTy T e' && (Nat.ble (n * (T.at e).size) 16777216 && Nat.beq (T.at e).size 1)))) (allocB (dropAll s ks) d ⟨e, false, .orows e' q⟩ (.slw d e)) .bad
          | none => match rowsOf T s e' ps.toList 0 with
          | some (q, ks) => cond (Nat.beq q.length n && (distinct ks && (Nat.ble (n * (T.at e).size) 16777216 && Nat.beq (T.at e).size 1))) (allocB (dropAll s ks) d ⟨e, false, .rows q⟩ (.slw d e)) .bad
          | none => .bad
        | _ => .bad)
    | _ => .bad
  | .call c =>
    match c.callee, c.args.toList, c.argTypes.toList with
    | .builtin .len, [x], [t] => match s.ev x with
      | .str b => cond (isStrD (T.at t).d) (putOk true s d (.int .i64 b.size)) .bad
      | .mapk k u => lenMap T s d t (.mapk k u)
      | .mapc k i u => lenMap T s d t (.mapc k i u)
      | .mapv u es => lenMap T s d t (.mapv u es)
      | v => cond (isSliceD (T.at t).d) (match lenV T s v with
        | some n => putOk true s d (.int .i64 n)
        | none => .bad) .bad
    | .builtin .min, [x, y], _ => match s.ev x, s.ev y with
      | .int k a, .int _ b => putOk true s d (.int k (minI a b))
      | _, _ => .bad
    | .builtin .max, [x, y], _ => match s.ev x, s.ev y with
      | .int k a, .int _ b => putOk true s d (.int k (maxI a b))
      | _, _ => .bad
    | .builtin .append, [x, y], [t, u] => match appendO T s d t u (s.ev x) (s.ev y) with
      | some o => o
      | none => match contents T s (s.ev y) with
      | none => .bad
      | some (e', m) => match s.ev x with
        | .slw k e => cond (Nat.blt k s.n && (Nat.beq e e' && (!(V.has k (s.ev y)) && (isSliceOf T t e && isSliceD (T.at u).d)))) (match s.blk k with
          | some ⟨e0, r0, b⟩ => cond (Nat.beq e0 e && !r0) (match b.cat m with
            | some r => .ok (decide (b.len + m.len ≤ bigLen)) (((s.kill k).setB k ⟨e, false, r⟩).put d (.slw k e))
            | none => .bad) .bad
          | none => .bad) .bad
        | .sl k off n e => cond (Nat.blt k s.n && (Nat.beq e e' && (!(V.has k (s.ev y)) && (isSliceOf T t e && isSliceD (T.at u).d)))) (match s.blk k, m with
          | some ⟨e0, r0, .ints l⟩, .ints r => cond (Nat.beq e0 e && !r0) (.ok (decide (n * (T.at e).size + r.length ≤ bigLen))
              (((s.kill k).setB k ⟨e, false, .ints (win l off (n * (T.at e).size) ++ r)⟩).put d (.slw k e))) .bad
          | _, _ => .bad) .bad
        | _ => .bad
    | .builtin .copy, [x, y], [t, u] => match contents T s (s.ev y) with
      | some (e', .ints q) => match s.ev x with
        | .slw k e => cond (Nat.beq e e' && (isSliceOf T t e && isSliceD (T.at u).d)) (match s.blk k with
          | some ⟨t0, r, .ints l⟩ => cond (Nat.beq t0 e) (.ok true ((s.setB k ⟨t0, r, .ints (copyI (T.at e).size l 0 (cnt (T.at e).size l) q)⟩).put d (.int .i64 (min (cnt (T.at e).size q) (cnt (T.at e).size l) : Nat)))) .bad
          | _ => .bad) .bad
        | .sl k off n e => cond (Nat.beq e e' && (isSliceOf T t e && isSliceD (T.at u).d)) (match s.blk k with
          | some ⟨t0, r, .ints l⟩ => .ok true ((s.setB k ⟨t0, r, .ints (copyI (T.at e).size l off n q)⟩).put d (.int .i64 (min (cnt (T.at e).size q) n : Nat)))
          | _ => .bad) .bad
        | _ => .bad
      | _ => .bad
    | _, _, _ => .bad
  | .makeMap t none => makeMapV T s d t
  | .lookup t m x ok => lookupV T s d t (s.ev m) (s.ev x) ok
  | _ => .bad

/-- Operations that write no slot. -/
def keysV : V → List Nat
  | .slw k _ => [k]
  | .sl k _ _ _ => [k]
  | .row k _ _ => [k]
  | _ => []

/-- A slice is stored as a row of slices. -/
def storeRow (T : Tab) (s : St) (t : TypeId) (k off : Nat) (x : Operand) : Out :=
  match (T.at t).d, s.blk k, contents T s (s.ev x) with
  | .slice e', some ⟨t0, r, .rows xss⟩, some (e1, .ints l) => cond (Nat.beq e1 e' && !(V.has k (s.ev x))) (.ok true ((dropAll s (keysV (s.ev x))).setB k ⟨t0, r, .rows (xss.set off l)⟩)) .bad
  | _, _, _ => .bad

/-- A row of one's own is put into rows of one's own. -/
def storeOrow (T : Tab) (s : St) (t : TypeId) (k off : Nat) (x : Operand) : Out :=
  match (T.at t).d, s.blk k, s.ev x with
  | .slice e', some ⟨t0, r, .orows e1 xss⟩, .slw k' e2 => match s.blk k' with
    | some ⟨e3, false, .ints l⟩ => cond (Nat.beq e1 e' && (Nat.beq e2 e' && (Nat.beq e3 e' && (!(Nat.beq k' k) && (Nat.blt k' s.n && Nat.blt k s.n))))) (.ok true ((((s.kill k').drop k').killD k).setB k ⟨t0, r, .orows e1 (xss.set off l)⟩)) .bad
    | _ => .bad
  | _, _, _ => .bad

/-- A map of one's own is put into a cell. -/
def storeM (T : Tab) (s : St) (t : TypeId) (k off k' : Nat) (u : TypeId) : Out :=
  match s.blk k with
  | some ⟨t0, r, .obj cs⟩ => (match (T.at t).d, s.blk k', rdo cs off with
      | .map _ _, some ⟨t1, false, .mapI es⟩, .u => cond ((Nat.beq (T.at t).size 1 && !(isFlatTy T t)) && (Nat.beq u t && (Nat.beq t1 t && (Nat.blt off cs.length && (!(Nat.beq k' k) && (Nat.blt k' s.n && Nat.blt k s.n))))))
          (.ok true ((((s.kill k').drop k').killD k).setB k ⟨t0, r, .obj (cs.set off (.m t es))⟩)) .bad
      | _, _, _ => .bad)
  | _ => .bad

/-- A store into cells. -/
def storeO (T : Tab) (s : St) (t : TypeId) (k off : Nat) (x : Operand) : Out :=
  match s.blk k with
  | some ⟨t0, r, .obj cs⟩ => match s.ev x with
    | .mapk k' u => storeM T s t k off k' u
    | v => match ocOf T t v with
      | some m => cond (Nat.beq m.length (T.at t).size && (Nat.ble (off + (T.at t).size) cs.length && (rdos cs off 0 (T.at t).size).all noMap)) (.ok true (s.setB k ⟨t0, r, .obj (setO cs off m)⟩)) .bad
      | none => .bad
  | _ => .bad

/-- A store into a map of one's own. -/
def putMap (T : Tab) (s : St) (t : TypeId) (m x v : V) : Out :=
  match (T.at t).d with
  | .map kt et => match keyL T kt x with
    | some q => match m with
      | .mapk k u => cond (Nat.beq u t && fits T et v) (match s.blk k, v with
        | some ⟨t0, r, .mapI es⟩, .int _ n => .ok true (s.setB k ⟨t0, r, .mapI (putK es q n)⟩)
        | some ⟨t0, r, .mapI es⟩, .bool b => .ok true (s.setB k ⟨t0, r, .mapI (putK es q (cond b 1 0))⟩)
        | _, _ => .bad) (match s.blk k, v, (T.at et).d with
        | some ⟨t0, r, .mapS es⟩, .str b, .str => cond (Nat.beq u t) (.ok true (s.setB k ⟨t0, r, .mapS (putK es q b)⟩)) .bad
        | _, _, _ => .bad)
      | .mapc k i u => cond (Nat.beq u t && fits T et v) (match s.blk k with
        | some ⟨t0, r, .obj cs⟩ => match rdo cs i, v with
          | .m u' es, .int _ n => .ok true (s.setB k ⟨t0, r, .obj (cs.set i (.m u' (putK es q n)))⟩)
          | .m u' es, .bool b => .ok true (s.setB k ⟨t0, r, .obj (cs.set i (.m u' (putK es q (cond b 1 0))))⟩)
          | _, _ => .bad
        | _ => .bad) .bad
      | _ => .bad
    | none => .bad
  | _ => .bad

/-- A store into a row of one's own. -/
def storeR (T : Tab) (s : St) (t : TypeId) (k i off : Nat) (v : V) : Out :=
  cond (isFlatTy T t && fits T t v) (match s.blk k, v.flat with
      | some ⟨t0, r, .orows e xss⟩, some m => .ok true (s.setB k ⟨t0, r, .orows e (xss.set i (storeI (T.at t) t none (rdr xss i) off m))⟩)
      | _, _ => .bad) .bad

def isObjB : Option Blk → Bool
  | some ⟨_, _, .obj _⟩ => true
  | _ => false

def opN (T : Tab) (s : St) (op : Op) : Out :=
  match op with
  | .mapUpdate t m k x => putMap T s t (s.ev m) (s.ev k) (s.ev x)
  | .insert t m k x => putMap T s t (s.ev m) (s.ev k) (s.ev x)
  | .store t p x =>
    match s.ev p with
    | .ptrr k i off u => cond (Nat.beq u t) (LATERstoreR T s t k i off (s.ev x)) .bad
    | .ptr k off u => cond (Nat.beq u t) (cond (isObjB (s.blk k)) (storeO T s t k off x) (cond (isFlatTy T t) (match s.blk k, (s.ev x).flat with
      | some ⟨t0, r, .ints l⟩, some m => cond (fits T t (s.ev x))
          (.ok true (s.setB k ⟨t0, r, .ints (storeI (T.at t) t (Blk.root ⟨t0, r, .ints l⟩) l off m)⟩)) .bad
      | _, _ => .bad) (match s.blk k with
        | some ⟨_, _, .orows _ _⟩ => LATERstoreOrow T s t k off x
        | _ => storeRow T s t k off x))) .bad
    | _ => .bad
  | .call c =>
    match c.callee, c.args.toList, c.argTypes.toList with
    | .builtin .clear, [x], [t] => match s.ev x with
      | .sl k off n e => cond (isSliceOf T t e) (match s.blk k with
        | some ⟨t0, r, .ints l⟩ => .ok true (s.setB k ⟨t0, r, .ints (setWin l off (n * (T.at e).size) (List.replicate (n * (T.at e).size) 0))⟩)
        | _ => .bad) .bad
      | _ => .bad
    | _, _, _ => .bad
  | _ => .bad

end Go.Ev
end

section
/- The evaluator's second part: calls, regions, code, functions. -/
namespace Go.Ev

/-- What a call gives: its result by value; of the slice that was handed over what is left of it. -/
abbrev Rs := V × Option (List D)

abbrev Ora := FuncId → List V → (R : Type) → (Rs → Option R) → Option R

inductive Ex
  | normal
  | exit (id : Nat)
  | ret

/-- Loops, by the number of the block around them. -/
abbrev Lo := Nat → St → (R : Type) → (Ex → St → Option R) → Option R

/-- `mv`: the functions that are handed their first argument, a slice, to write to. -/
structure Cfg where
  T : Tab
  mv : List Nat
  ora : Ora
  lo : Lo

def memN (k : Nat) : List Nat → Bool
  | [] => false
  | j :: r => Nat.beq j k || memN k r

def kB : Rs → Option Bool
  | (.bool b, none) => some b
  | _ => none

def kL (e : TypeId) : Rs → Option (List Int)
  | (.slv e' l, none) => cond (Nat.beq e' e) (some l) none
  | _ => none

/-- A flat payload as a value of type t. -/
def unflat (T : Tab) (t : TypeId) (l : List Int) : V :=
  match (T.at t).d with
  | .slice e => .slv e l
  | _ => loadI (T.at t) t (some t) l 0

def snap1 (T : Tab) (s : St) : V → Option V
  | .bool b => some (.bool b)
  | .int k n => some (.int k n)
  | .str b => some (.str b)
  | .agg t l => some (.agg t l)
  | .slv e l => some (.slv e l)
  | .slr e l => some (.slr e l)
  | .cloB a g => some (.cloB a g)
  | .cloL a e g => some (.cloL a e g)
  | .pvi t0 l off t => some (.pvi t0 l off t)
  | .pvv vs off t => some (.pvv vs off t)
  | .slw k e => match contents T s (.slw k e) with
    | some (_, .ints l) => some (.slv e l)
    | some (_, .rows l) => some (.slr e l)
    | some (_, .orows _ l) => some (.slr e l)
    | _ => none
  | .sl k off n e => match contents T s (.sl k off n e) with
    | some (_, .ints l) => some (.slv e l)
    | _ => none
  | .ptr k off t => match s.blk k with
    | some ⟨t0, r, .ints l⟩ => some (.pvi (Blk.root ⟨t0, r, .ints l⟩) l off t)
    | some ⟨_, _, .vals vs⟩ => some (.pvv vs off t)
    | some ⟨_, _, .obj cs⟩ => some (.pvo cs off t)
    | _ => none
  | .mapk k t => match mapOf s (.mapk k t) with
    | some (_, .mapI es) => some (.mapv t es)
    | _ => none
  | .mapc k i t => match mapOf s (.mapc k i t) with
    | some (_, .mapI es) => some (.mapv t es)
    | _ => none
  | .mapv t es => some (.mapv t es)
  | .pvo cs off t => some (.pvo cs off t)
  | .reco t cs => some (.reco t cs)
  | .row k i e => match contents T s (.row k i e) with
    | some (_, .ints l) => some (.slv e l)
    | _ => none
  | _ => none

def snapL (T : Tab) (s : St) : List V → Option (List V)
  | [] => some []
  | v :: r => match snap1 T s v, snapL T s r with
    | some a, some b => some (a :: b)
    | _, _ => none

/-- A value as it is handed to a parameter of type t. -/
def snap (C : Cfg) (s : St) (t : TypeId) (v : V) : Option V :=
  match v with
  | .nil => match (C.T.at t).d with
    | .slice e => cond (isFlatTy C.T e) (some (.slv e [])) none
    | _ => none
  | .fn f first cap => cond (memN f C.mv) none (match snapL C.T s first, snapL C.T s cap with
    | some a, some c => match (C.T.at t).d with
      | .fnB u => some (.cloB u fun l => C.ora f (a ++ (unflat C.T u l :: c)) Bool kB)
      | .fnL u e => some (.cloL u e fun l => C.ora f (a ++ (unflat C.T u l :: c)) (List Int) (kL e))
      | _ => none
    | _, _ => none)
  | v => snap1 C.T s v

def snapArgs (C : Cfg) (s : St) : List TypeId → List V → Option (List V)
  | _, [] => some []
  | t :: ts, v :: vs => match snap C s t v, snapArgs C s ts vs with
    | some a, some as => some (a :: as)
    | _, _ => none
  | [], _ :: _ => none

/-- A result's parts: what is owned becomes block d. -/
def thawV (d : Nat) : V → Option (V × Option Blk)
  | .slv e l => some (.slw d e, some ⟨e, false, .ints l⟩)
  | .ownR e e' xss => some (.slw d e, some ⟨e, false, .orows e' xss⟩)
  | .ownM t es => some (.mapk d t, some ⟨t, false, .mapI es⟩)
  | .ownO t cs => some (.ptr d 0 t, some ⟨t, true, .obj cs⟩)
  | .bool b => some (.bool b, none)
  | .int k n => some (.int k n, none)
  | .str b => some (.str b, none)
  | .agg t l => some (.agg t l, none)
  | _ => none

def thawL (d : Nat) : List V → Option (List V × Option Blk)
  | [] => some ([], none)
  | v :: r => match thawV d v, thawL d r with
    | some (x, none), some (q, o) => some (x :: q, o)
    | some (x, some o), some (q, none) => some (x :: q, some o)
    | _, _ => none

def thawR (d : Nat) (v : V) : Option (V × Option Blk) :=
  match v with
  | .tup vs => match thawL d vs with
    | some (q, o) => some (.tup q, o)
    | none => none
  | v => thawV d v

def thaw (s : St) (d : Nat) (v : V) : Option St :=
  match thawR d v with
  | none => none
  | some (x, none) => some (s.put d x)
  | some (x, some bk) => match s.blk d with
    | none => some ((s.setB d bk).put d x)
    | some _ => none

/-- What is handed to a closure whose parameter is of type a. -/
def argOf (T : Tab) (s : St) (a : TypeId) (v : V) : Option (List Int) :=
  match (T.at a).d with
  | .slice e => match contents T s v with
    | some (e', .ints l) => cond (Nat.beq e' e) (some l) none
    | _ => none
  | _ => cond (fits T a v && isFlatTy T a) v.flat none

def isFuncOp : Operand → Bool
  | .func _ => true
  | _ => false

/-! Pointers to whole variables that a function is handed to write through: which arguments, `mv` tells; by value `.tup [.agg t l]` or `.ownO t cs`. -/

def posM (mv : List Nat) (g i : Nat) : Bool := memN (g + 1000000 * (i + 1)) mv

def isM : V → Option (TypeId × D)
  | .tup [.agg t l] => some (t, .ints l)
  | .ownO t cs => some (t, .obj cs)
  | _ => none

def headSlv : List V → Option (TypeId × D × List V)
  | .slv e l :: vs => some (e, .ints l, vs)
  | .ownR e e' xss :: vs => some (e, .orows e' xss, vs)
  | _ => none

def headV (e : TypeId) : D → Option V
  | .ints l => some (.slv e l)
  | .orows e' xss => some (.ownR e e' xss)
  | _ => none

def markV (t : TypeId) : D → Option V
  | .ints l => some (.tup [.agg t l])
  | .obj cs => some (.ownO t cs)
  | _ => none

def marks : Nat → List V → List (Nat × TypeId × D)
  | _, [] => []
  | i, v :: vs => match isM v with
    | some x => (i, x) :: marks (i + 1) vs
    | none => marks (i + 1) vs

/-- The arguments; the blocks that are handed over; the other arguments as they stand. -/
def snapM (C : Cfg) (s : St) (g : Nat) : Nat → List TypeId → List V → Option (List V × List Nat × List V)
  | _, _, [] => some ([], [], [])
  | i, t :: ts, v :: vs => match snapM C s g (i + 1) ts vs with
    | none => none
    | some (as, ks, us) => cond (posM C.mv g i)
      (match v with
      | .ptr k 0 u => match s.blk k with
        | some ⟨t0, true, d⟩ => match markV u d with
          | some a => cond (Nat.beq t0 u) (some (a :: as, k :: ks, us)) none
          | none => none
        | _ => none
      | _ => none)
      (match snap C s t v with
      | some a => match isM a with
        | some _ => none
        | none => some (a :: as, ks, v :: us)
      | none => none)
  | _, [], _ :: _ => none

def putM : St → List Nat → List D → Option St
  | s, [], [] => some s
  | s, k :: r, d :: q => match s.blk k with
    | some ⟨t, b, _⟩ => putM (s.setB k ⟨t, b, d⟩) r q
    | none => none
  | _, _, _ => none

/-- Nothing is owned any more: what was is told by value. -/
def freezeE (T : Tab) (s : St) : List (Nat × V) → List (Nat × V)
  | [] => []
  | (i, v) :: r => (i, match snap1 T s v with | some v' => v' | none => .undef) :: freezeE T s r
def freeze (T : Tab) (s : St) : St := ⟨s.n, freezeE T s s.env, []⟩

/-- Is anything of the function's own in sight of a value? -/
def V.refs : V → Bool
  | .undef | .skip | .nil | .bool _ | .int _ _ | .str _ | .agg _ _ | .pvi _ _ _ _ | .pvr _ _ _ | .slv _ _ | .slr _ _ | .cloB _ _ | .cloL _ _ _ | .mapv _ _ | .pvv _ _ _ | .pvo _ _ _ | .reco _ _ => false
  | _ => true

def isOwnO : V → Bool
  | .ownO _ _ => true
  | _ => false

def needF : V → Bool
  | .tup vs => vs.any isOwnO
  | v => isOwnO v

def evMoved (C : Cfg) (s : St) (g : Nat) (b : List V) (ts : List TypeId) (vs : List V) (d : Nat) {R : Type} (K : St → Option R) : Option R :=
  match b, snapM C s g 0 ts vs with
  | [], some (as, ks, us) => match headSlv as with
    | some _ => none
    | none => cond (distinct ks && us.all fun v => !v.refs) (C.ora g as R fun r => match r.2 with
      | some q => match thawR d r.1 with
          | some (x, none) => match putM s ks q with
            | some s' => K (s'.put d x)
            | none => none
          | _ => none
      | none => none) none
  | _, _ => none

def evCall (C : Cfg) (s : St) (c : Call) (f : Operand) (d : Nat) {R : Type} (K : St → Option R) : Option R :=
  match s.ev f with
  | .fn g first cap =>
    match snapL C.T s first, snapL C.T s cap with
    | some a, some b =>
      cond (memN g C.mv)
        (cond (isFuncOp f) (match a, c.argTypes.toList, c.args.toList.map s.ev with
        | [], _ :: ts, .slw k e :: vs => match s.blk k, snapArgs C s ts vs with
          | some ⟨e0, false, d0⟩, some as =>
            cond (Nat.blt k s.n && (Nat.beq e0 e && (!(V.hasL k vs || V.hasL k cap) && !(posM C.mv g 0)))) (match headV e d0 with
            | some h => C.ora g (h :: (as ++ b)) R fun r => match r.2 with
              | some q => match q, thawR d r.1 with
                | [d1], some (x, none) => K ((s.setB k ⟨e, false, d1⟩).put d x)
                | _, _ => none
              | none => match d0 with
                | .ints _ => cond (needF r.1) none (match thaw ((s.kill k).drop k) d r.1 with
                  | some s2 => K s2
                  | none => none)
                | _ => none
            | none => none) none
          | _, _ => none
        | [], _ :: ts, .row k i e :: vs => match s.blk k, snapArgs C s ts vs with
          | some ⟨e0, false, .orows e1 xss⟩, some as =>
            cond (Nat.beq e1 e && (!(V.hasL k vs || V.hasL k cap) && !(posM C.mv g 0))) (C.ora g (.slv e (rdr xss i) :: (as ++ b)) R fun r => match r.2 with
              | some q => match q, thawR d r.1 with
                | [.ints l'], some (x, none) => K ((s.setB k ⟨e0, false, .orows e1 (xss.set i l')⟩).put d x)
                | _, _ => none
              | none => none) none
          | _, _ => none
        | [], ts, vs => evMoved C s g b ts vs d K
        | _, _, _ => none) none)
        (match snapArgs C s c.argTypes.toList (c.args.toList.map s.ev) with
        | some as => C.ora g (a ++ (as ++ b)) R fun r => match r.2 with
          | some _ => none
          | none => cond (needF r.1 && ((c.args.toList.map s.ev).any V.refs || (first.any V.refs || cap.any V.refs))) none (match thaw s d r.1 with
            | some s2 => K s2
            | none => none)
        | none => none)
    | _, _ => none
  | .cloB a g =>
    match c.args.toList.map s.ev with
    | [x] => match argOf C.T s a x with
      | some l => (g l).bind fun b => K (s.put d (.bool b))
      | none => none
    | _ => none
  | .cloL a e g =>
    match c.args.toList.map s.ev with
    | [x] => match argOf C.T s a x with
      | some l => (g l).bind fun q => match thaw s d (.slv e q) with
        | some s2 => K s2
        | none => none
      | none => none
    | _ => none
  | _ => none

def outK {R : Type} (o : Out) (K : St → Option R) : Option R :=
  match o with
  | .bad => none
  | .ok b s => cond b (K s) none

def isNilC : Operand → Bool
  | .const (.slice none 0 0) => true
  | _ => false

/-- A slice variable without a block: an empty block. -/
def asNil (T : Tab) (s : St) (d : Nat) (t : TypeId) (x : Operand) : Option St :=
  cond (isNilC x) (match (T.at t).d, s.blk d with
    | .slice e, none => cond (isFlatTy T e) (some ((s.setB d ⟨e, false, .ints []⟩).put d (.slw d e))) none
    | _, _ => none) none

def evOp (C : Cfg) (s : St) (o : Oper) {R : Type} (K : St → Option R) : Option R :=
  match o.dst with
  | none => outK (opN C.T s o.op) K
  | some d => cond (Nat.blt d s.n)
    (match o.op with
    | .pick c a b => match s.ev c with
      | .bool t => cond t (K (s.put d (s.ev a))) (K (s.put d (s.ev b)))
      | _ => none
    | .call c => match c.callee with
      | .value f => evCall C s c f d K
      | _ => outK (opR C.T s d o.op) K
    | .assign x => match asNil C.T s d o.type x with
      | some s' => K s'
      | none => K (s.put d (s.ev x))
    | _ => outK (opR C.T s d o.op) K) none

def putD (s : St) (d : Option Tmp) (v : V) : St := match d with | some t => s.put t v | none => s

/-- The operations of a region, in the text's order. -/
def evOps (C : Cfg) (ops : List Oper) : List Oper → St → {R : Type} → (St → Option R) → Option R
  | [], s, _, K => K s
  | o :: r, s, _, K =>
    match o.guard with
    | none => evOp C s o fun s' => evOps C ops r s' K
    | some (j, want) => match (ops[j]?).bind (·.dst) with
      | none => none
      | some dj => match s.get dj with
        | .bool b => match want with
          | true => cond b (evOp C (s.put dj (.bool true)) o fun s' => evOps C ops r s' K) (evOps C ops r (putD (s.put dj (.bool false)) o.dst .skip) K)
          | false => cond b (evOps C ops r (putD (s.put dj (.bool true)) o.dst .skip) K) (evOp C (s.put dj (.bool false)) o fun s' => evOps C ops r s' K)
        | .skip => evOps C ops r (putD s o.dst .skip) K
        | _ => none

/-! ## Regions that draw their order -/

def quietOp (mv : List Nat) (T : Tab) : Op → Bool
  | .move _ | .pick .. | .alloc _ | .build .. | .load .. | .nilCheck _ | .binOp .. | .unOp .. | .convert .. | .makeFunc .. | .slice .. | .fieldAddr .. | .field .. | .indexAddr .. | .index .. | .extract .. | .box .. => true
  | .assign x => !(isNilC x)
  | .lookup .. => true
  | .makeMap _ none => true
  | .buildSlice t _ _ => match (T.at t).d with
    | .slice e => isFlatTy T e
    | _ => false
  | .call c => match c.callee with
    | .builtin .len | .builtin .min | .builtin .max => true
    | .value (.func f) => !(memN f mv)
    | .value (.tmp _) => true
    | _ => false
  | _ => false

def tmpsOf (l : List Operand) : List Tmp := l.filterMap fun | .tmp t => some t | _ => none

def readsOf (ops : List Oper) (o : Oper) : List Tmp :=
  tmpsOf o.op.operands.toList ++ (match o.guard with
  | some (j, _) => ((ops[j]?).bind (·.dst)).toList
  | none => [])

def edgesOf (o : Oper) : List Nat := (o.after.toList.filter fun e => Region.binds .any e).map (·.on)

/-- How many operations stand ahead of the first that is not quiet. -/
def quietLen (mv : List Nat) (T : Tab) : List Oper → Nat
  | [] => 0
  | o :: r => cond (quietOp mv T o.op && o.dst.isSome) (quietLen mv T r + 1) 0

def upTo (n : Nat) : List Nat := List.range n

def allIx {α : Type} (p : Nat → α → Bool) : Nat → List α → Bool
  | _, [] => true
  | i, x :: r => p i x && allIx p (i + 1) r

def allBelow (p : Nat → Bool) : Nat → Bool
  | 0 => true
  | n + 1 => allBelow p n && p n

def dstIs (o : Oper) (t : Nat) : Bool :=
  match o.dst with
  | some u => Nat.beq u t
  | none => false

def maskOf : List Nat → Nat
  | [] => 0
  | j :: r => Nat.lor (Nat.shiftLeft 1 j) (maskOf r)

/-- One look through the operations that wait: those that may go, those that wait on, what is done. -/
def ordPass : List (Nat × Nat) → Nat → List Nat × List (Nat × Nat) × Nat
  | [], done => ([], [], done)
  | (i, m) :: r, done => cond (Nat.beq (Nat.land m done) m)
    (match ordPass r (Nat.lor (Nat.shiftLeft 1 i) done) with | (a, b, d) => (i :: a, b, d))
    (match ordPass r done with | (a, b, d) => (a, (i, m) :: b, d))

def ordGo : Nat → List (Nat × Nat) → Nat → List Nat
  | 0, _, _ => []
  | n + 1, l, done => match l with
    | [] => []
    | l => match ordPass l done with | (a, b, d) => a ++ ordGo n b d

def maskIx : Nat → List Oper → List (Nat × Nat)
  | _, [] => []
  | i, o :: r => (i, maskOf (edgesOf o)) :: maskIx (i + 1) r

/-- An order of the operations that their edges allow. -/
def ordOf (ops : List Oper) : List Nat := ordGo ops.length (maskIx 0 ops) 0

def posOf (i : Nat) : List Nat → Nat
  | [] => 0
  | j :: r => cond (Nat.beq j i) 0 (posOf i r + 1)

def pick (ops : List Oper) : List Nat → List Oper
  | [] => []
  | i :: r => match ops[i]? with
    | some o => o :: pick ops r
    | none => pick ops r

def edP (ord : List Nat) (o : Oper) : List Nat := (edgesOf o).map fun i => posOf i ord

/-- Operations that touch nothing but slots, and may go as soon as they can. -/
def pureOp : Op → Bool
  | .extract _ _ => true
  | .move _ => true
  | _ => false

def apartB (ops : List Oper) (x y : Oper) : Bool :=
  (match x.dst with
  | some d => !(memN d (readsOf ops y)) && !(dstIs y d)
  | none => true) && (match y.dst with
  | some d => !(memN d (readsOf ops x))
  | none => true)

def pureFree (ops : List Oper) (i : Nat) (o : Oper) : Bool :=
  (match o.guard with
  | none => true
  | some _ => false) && (pureOp o.op && (o.dst.isSome && allIx (fun j p => Nat.beq j i || (memN i (edgesOf p) || (memN j (edgesOf o) || apartB ops o p))) 0 ops))

def notSelect (o : Oper) : Bool :=
  match o.op with
  | .select .. => false
  | _ => true

/-- Is j ahead of an operation, itself or through at most n others? -/
def ancN (po : List Oper) (ord : List Nat) : Nat → Oper → Nat → Bool
  | 0, o, j => memN j (edP ord o)
  | n + 1, o, j => memN j (edP ord o) || (edP ord o).any fun e => Nat.blt j e && match po[e]? with
    | some p => ancN po ord n p j
    | none => false

def ancB (po : List Oper) (ord : List Nat) (o : Oper) (j : Nat) : Bool := ancN po ord 10 o j

def lateB (ops po : List Oper) (ord : List Nat) (o : Oper) (j : Nat) : Bool :=
  match po[j]? with
  | some p => pureFree ops (ord.getD j 0) p && (edP ord p).all fun e => ancB po ord o e
  | none => false

/-- ord runs through all operations; of the quiet ones at its head what one reads that another writes is ordered; no two write one slot. -/
def drawOK (mv : List Nat) (T : Tab) (ops : List Oper) (ord : List Nat) : Bool :=
  let po := pick ops ord
  let m := quietLen mv T po
  let q := po.take m
  (Nat.beq ord.length ops.length && (allIx (fun p i => Nat.blt i ops.length && Nat.beq (posOf i ord) p) 0 ord && allBelow (fun i => Nat.blt (posOf i ord) ord.length && Nat.beq (ord.getD (posOf i ord) 0) i) ops.length)) &&
  (allIx (fun p o => (edP ord o).all fun j => Nat.blt j p) 0 po &&
  (allIx (fun i o => (readsOf ops o).all fun t => allIx (fun j p => !(dstIs p t) || (memN j (edP ord o) || memN i (edP ord p))) 0 q) 0 q &&
  (allIx (fun i o => allIx (fun j p => Nat.beq i j || (match o.dst with | some t => !(dstIs p t) | none => true)) 0 q) 0 q &&
  (allIx (fun i o => Nat.blt i m || allBelow (fun j => ancB po ord o j || lateB ops po ord o j) i) 0 po && allIx (fun _ o => notSelect o) 0 ops))))

/-! Regions that draw their order, and store into variables nobody else looks at. -/

def ptrK : V → Option Nat
  | .ptr k _ _ => some k
  | _ => none

def mapK : V → Option Nat
  | .mapk k _ => some k
  | .mapc k _ _ => some k
  | _ => none

def storeK (s : St) (o : Oper) : Option Nat :=
  match o.op with
  | .store _ p _ => ptrK (s.ev p)
  | .mapUpdate _ m _ _ => mapK (s.ev m)
  | .insert _ m _ _ => mapK (s.ev m)
  | .call c => match c.args.toList with
    | x :: _ => ptrK (s.ev x)
    | [] => none
  | _ => none

def isStore (o : Oper) : Bool :=
  (match o.guard with
  | none => true
  | some _ => false) && (o.dst.isNone && match o.op with
  | .store .. => true
  | .mapUpdate .. => true
  | .insert .. => true
  | _ => false)

def onlyPos (mv : List Nat) (g : Nat) : Nat → Bool
  | 0 => true
  | n + 1 => !(posM mv g (n + 1)) && onlyPos mv g n

/-- A call that is handed its first argument alone, a pointer, to write through. -/
def isMvCall (mv : List Nat) (o : Oper) : Bool :=
  (match o.guard with
  | none => true
  | some _ => false) && (o.dst.isSome && match o.op with
  | .call c => (match c.callee with
    | .value (.func g) => Nat.ble 1 c.args.toList.length && (memN g mv && (posM mv g 0 && onlyPos mv g c.args.toList.length))
    | _ => false)
  | _ => false)

def isMark (mv : List Nat) (o : Oper) : Bool := isStore o || isMvCall mv o

def flatSt (T : Tab) (o : Oper) : Bool :=
  match o.op with
  | .store t _ _ => isFlatTy T t
  | .mapUpdate .. => true
  | .insert .. => true
  | _ => false

def quiet2 (mv : List Nat) (T : Tab) (o : Oper) : Bool := (quietOp mv T o.op && o.dst.isSome) || ((isStore o && flatSt T o) || isMvCall mv o)

def quietLen2 (mv : List Nat) (T : Tab) : List Oper → Nat
  | [] => 0
  | o :: r => cond (quiet2 mv T o) (quietLen2 mv T r + 1) 0

def isKey (mv : List Nat) (s : St) (o : Oper) (k : Nat) : Bool :=
  cond (isMark mv o) (match storeK s o with
    | some k' => Nat.beq k' k
    | none => true) (dstIs o k)

/-- What the stores at a region's head write, nobody else there looks at, unless it is ordered. -/
def storesOK (mv : List Nat) (ops : List Oper) (ord : List Nat) (q : List Oper) (s : St) : Bool :=
  allIx (fun j p => !(isMark mv p) || match storeK s p with
    | none => false
    | some k => allIx (fun i o => Nat.beq i j || (!(isKey mv s o k) && ((memN j (edP ord o) || (memN i (edP ord p) || (readsOf ops o).all fun t => !(V.has k (s.get t)))) || ((Nat.blt i j && ancB q ord p i) || (Nat.blt j i && ancB q ord o j))))) 0 q) 0 q

def drawOK2 (mv : List Nat) (T : Tab) (ops : List Oper) (ord : List Nat) : Bool :=
  let po := pick ops ord
  let m := quietLen2 mv T po
  let q := po.take m
  (Nat.beq ord.length ops.length && (allIx (fun p i => Nat.blt i ops.length && Nat.beq (posOf i ord) p) 0 ord && allBelow (fun i => Nat.blt (posOf i ord) ord.length && Nat.beq (ord.getD (posOf i ord) 0) i) ops.length)) &&
  (allIx (fun p o => (edP ord o).all fun j => Nat.blt j p) 0 po &&
  (allIx (fun _ o => (readsOf ops o).all fun t => allIx (fun j p => !(dstIs p t) || memN j (edP ord o)) 0 q) 0 q &&
  (allIx (fun i o => allIx (fun j p => Nat.beq i j || (match o.dst with | some t => !(dstIs p t) | none => true)) 0 q) 0 q &&
  (allIx (fun i o => Nat.blt i m || allBelow (fun j => ancB po ord o j || lateB ops po ord o j) i) 0 po && allIx (fun _ o => notSelect o) 0 ops))))

/-! ## Code -/

/-! At a loop's head: the slots that are kept, and their blocks; slices anew from their first cell on, their blocks under the slots' own names. -/

def idV : V → Option Nat
  | .slw k _ => some k
  | .ptr k _ _ => some k
  | .sl k _ _ _ => some k
  | .mapk k _ => some k
  | _ => none

def plainV : V → V
  | .tup _ => .undef
  | .mapc _ _ _ => .undef
  | .row _ _ _ => .undef
  | .ptrr _ _ _ _ => .undef
  | .fn f a b => match a, b with
    | [], [] => .fn f [] []
    | _, _ => .undef
  | v => v

def restrictE (s : St) : List Nat → List (Nat × V)
  | [] => []
  | t :: r => (t, plainV (s.get t)) :: restrictE s r

def addB (s : St) (k : Nat) (own : List (Nat × Option Blk)) : List (Nat × Option Blk) :=
  match look none own k with
  | some _ => own
  | none => (k, s.blk k) :: own

def restrictB (s : St) : List Nat → List (Nat × Option Blk)
  | [] => []
  | t :: r => match idV (s.get t) with
    | some k => addB s k (restrictB s r)
    | none => restrictB s r

/-- The blocks that are kept; one that was handed over is always kept. -/
def ownR (s : St) (ks : List Nat) : List (Nat × Option Blk) :=
  match s.blk s.n with
  | some _ => addB s s.n (restrictB s ks)
  | none => restrictB s ks

def restrict (ks : List Nat) (s : St) : St := ⟨s.n, restrictE s ks, ownR s ks⟩

def othersHave (s : St) (k t : Nat) : List Nat → Bool
  | [] => false
  | u :: r => (!(Nat.beq u t) && V.has k (s.get u)) || othersHave s k t r

def window (T : Tab) (ks : List Nat) (s : St) (t : Nat) : St :=
  match s.get t with
  | .sl k off n e => cond (othersHave s k t ks || Nat.ble s.n k) (s.put t .undef) (match s.blk k with
    | some ⟨e0, r0, .ints l⟩ => cond (Nat.beq e0 e && !r0) (((s.kill k).setB k ⟨e, false, .ints (win l off (n * (T.at e).size))⟩).put t (.slw k e)) (s.put t .undef)
    | _ => s.put t .undef)
  | _ => s

def rename (ks : List Nat) (s : St) (t : Nat) : St :=
  match s.get t with
  | .slw k e => cond ((Nat.beq k t || othersHave s k t ks) || (Nat.ble s.n k || Nat.ble s.n t)) s (match s.blk k, s.blk t with
    | some bk, none => (((s.kill k).drop k).setB t bk).put t (.slw t e)
    | _, _ => s)
  | _ => s

def heads (T : Tab) (ks : List Nat) (s : St) : List Nat → St
  | [] => s
  | t :: r => heads T ks (rename ks (window T ks s t) t) r

def canon (T : Tab) (ks : List Nat) (s : St) : St := restrict ks (heads T ks (restrict ks s) ks)

/-! A variable that is made anew: its old block is forgotten, where no other slot leads to it. -/

def aliveElse (d : Nat) : List (Nat × V) → Bool
  | [] => false
  | (i, v) :: r => (!(Nat.beq i d) && V.has d v) || aliveElse d r

def freeB (s : St) (d : Nat) : St :=
  match s.blk d with
  | some _ => cond (aliveElse d s.env) s ((s.put d .undef).drop d)
  | none => s

def isAlloc : Op → Bool
  | .alloc _ => true
  | _ => false

def frees : List Oper → St → St
  | [], s => s
  | o :: r, s => match o.dst with
    | some d => cond (isAlloc o.op) (frees r (freeB s d)) (frees r s)
    | none => frees r s

def evCode (C : Cfg) {R : Type} : Code → Nat → St → (Ex → St → Option R) → Option R
  | .skip, _, s, K => K .normal s
  | .region _ ops draw, _, s, K => cond draw
      (cond (drawOK C.mv C.T ops.toList (ordOf ops.toList)) (evOps C ops.toList (pick ops.toList (ordOf ops.toList)) s (K .normal))
        (cond (drawOK2 C.mv C.T ops.toList (ordOf ops.toList))
          (evOps C ops.toList ((pick ops.toList (ordOf ops.toList)).take (quietLen2 C.mv C.T (pick ops.toList (ordOf ops.toList)))) s fun s1 =>
            cond (storesOK C.mv ops.toList (ordOf ops.toList) ((pick ops.toList (ordOf ops.toList)).take (quietLen2 C.mv C.T (pick ops.toList (ordOf ops.toList)))) s1)
              (evOps C ops.toList ((pick ops.toList (ordOf ops.toList)).drop (quietLen2 C.mv C.T (pick ops.toList (ordOf ops.toList)))) s1 (K .normal)) none) none))
      (evOps C ops.toList ops.toList (frees ops.toList s) (K .normal))
  | .seq a b, lab, s, K => evCode C a lab s fun e s' => match e with
    | .normal => evCode C b lab s' K
    | e => K e s'
  | .cond c a b, lab, s, K => match s.ev c with
    | .bool t => cond t (evCode C a lab s K) (evCode C b lab s K)
    | _ => none
  | .block id c, _, s, K => evCode C c id s fun e s' => match e with
    | .exit j => cond (Nat.beq j id) (K .normal s') (K (.exit j) s')
    | e => K e s'
  | .loop _, lab, s, K => C.lo lab s R K
  | .exit id, _, s, K => K (.exit id) s
  | .ret, _, s, K => K .ret s
  | _, _, _, _ => none

/-- The loops of a code, but for those within loops. -/
def loopsOf : Code → Nat → List (Nat × Code)
  | .loop c, lab => [(lab, c)]
  | .seq a b, lab => loopsOf a lab ++ loopsOf b lab
  | .cond _ a b, lab => loopsOf a lab ++ loopsOf b lab
  | .block id c, _ => loopsOf c id
  | _, _ => []

def loopF {Pm R : Type} (step : (Pm → Option R) → Pm → Option R) : Nat → Pm → Option R
  | 0, _ => none
  | n + 1, p => step (loopF step n) p

/-! ## Functions -/

def numb : Nat → List V → List (Nat × V)
  | _, [] => []
  | i, v :: vs => (i, v) :: numb (i + 1) vs

def entE (n : Nat) : Nat → List V → List (Nat × V)
  | _, [] => []
  | i, v :: vs => (i, match isM v with | some (t, _) => .ptr (n + i) 0 t | none => v) :: entE n (i + 1) vs

def entB (n : Nat) : List (Nat × TypeId × D) → List (Nat × Option Blk)
  | [] => []
  | (i, t, d) :: r => (n + i, some ⟨t, true, d⟩) :: entB n r

def keysM (n : Nat) : List (Nat × TypeId × D) → List Nat
  | [] => []
  | (i, _) :: r => (n + i) :: keysM n r

def enter (n : Nat) (mvd : Bool) (args : List V) : St :=
  match mvd with
  | false => ⟨n, numb 0 args, []⟩
  | true => match headSlv args with
    | some (e, d, vs) => ⟨n, (0, .slw n e) :: numb 1 vs, [(n, some ⟨e, false, d⟩)]⟩
    | none => ⟨n, entE n 0 args, entB n (marks 0 args)⟩

/-- A result by value. -/
def result (T : Tab) (s : St) (t : TypeId) (v : V) : Option V :=
  match v with
  | .bool b => some (.bool b)
  | .int k n => some (.int k n)
  | .str b => some (.str b)
  | .agg u l => some (.agg u l)
  | .nil => match (T.at t).d with
    | .slice e => cond (isFlatTy T e) (some (.slv e [])) (match (T.at e).d with
      | .slice e' => cond (isFlatTy T e' && Nat.beq (T.at e).size 1) (some (.ownR e e' [])) none
      | _ => none)
    | _ => none
  | .slw k e => match s.blk k with
    | some ⟨_, _, .ints l⟩ => some (.slv e l)
    | some ⟨_, _, .orows e' l⟩ => some (.ownR e e' l)
    | _ => none
  | .mapk k t => match s.blk k with
    | some ⟨_, _, .mapI es⟩ => some (.ownM t es)
    | _ => none
  | .ptr k off t => match s.blk k with
    | some ⟨t0, true, .obj cs⟩ => cond (Nat.beq off 0 && (Nat.beq t0 t && Nat.beq cs.length (T.at t).size)) (some (.ownO t cs)) none
    | _ => none
  | .sl k off n e => match s.blk k with
    | some ⟨e0, _, .ints l⟩ => cond (Nat.beq e0 e) (some (.slv e (win l off (n * (T.at e).size)))) none
    | _ => none
  | _ => none

def resVar (T : Tab) (s : St) : ResultVar → Option V
  | .tmp t => some (s.get t)
  | .cell p t => loadV T s t (s.get p)

def results (T : Tab) (s : St) : List ResultVar → List TypeId → Option (List V)
  | [], _ => some []
  | r :: rs, t :: ts => match resVar T s r with
    | some v => match result T s t v, results T s rs ts with
      | some a, some as => some (a :: as)
      | _, _ => none
    | none => none
  | _, _ => none

/-- What is given back of a slice that was handed over, if no result holds it. -/
def backOf (T : Tab) (s : St) (rs : List ResultVar) : Option (List D) :=
  cond (rs.any fun r => match resVar T s r with
    | some v => V.has s.n v
    | none => true) none (match s.blk s.n with
    | some ⟨_, _, d⟩ => some [d]
    | none => none)

def backP (s : St) : List Nat → Option (List D)
  | [] => some []
  | k :: r => match s.blk k, backP s r with
    | some ⟨_, _, d⟩, some q => some (d :: q)
    | _, _ => none

def anyRef (T : Tab) (s : St) : List ResultVar → Bool
  | [] => false
  | r :: rs => (match resVar T s r with
    | some v => v.refs
    | none => true) || anyRef T s rs

def backF (T : Tab) (fn : Func) (mvd : Bool) (args : List V) (s : St) : Option (List D) :=
  cond mvd (match headSlv args with
  | some _ => backOf T s fn.results.toList
  | none => cond (Nat.beq s.n fn.ntmps) (backP s (keysM fn.ntmps (marks 0 args))) none) none

def fin (T : Tab) (fn : Func) (mvd : Bool) (args : List V) {R : Type} (K : Rs → Option R) (s : St) : Option R :=
  match results T s fn.results.toList fn.resultTypes.toList with
  | some vs => match vs with
    | [v] => K (v, backF T fn mvd args s)
    | vs => K (.tup vs, backF T fn mvd args s)
  | none => none

def runF (C : Cfg) (fn : Func) (mvd : Bool) (args : List V) {R : Type} (K : Rs → Option R) : Option R :=
  match fn.body with
  | some c => cond (Nat.ble args.length fn.ntmps) (evCode C c 0 (enter fn.ntmps mvd args) fun e s => match e with
      | .exit _ => none
      | _ => fin C.T fn mvd args K s) none
  | none => none

end Go.Ev
end

section
/- What the evaluator's states say of the kit's worlds. -/
namespace Go.Ev
open Go.RowKit (Below)

/-! ## The table of types is right -/

def zipV : List SK → List Int → List Value
  | k :: ks, n :: l => k.val n :: zipV ks l
  | _, _ => []

/-- What an unwritten cell holds. -/
def zeroCell (T : Tab) : OC → Value → Bool
  | .i k n, .int j m => decide (k = j) && (n == 0 && m == 0)
  | .b x, .bool y => !x && !y
  | .s x, .string y => Nat.beq x.size 0 && Nat.beq y.size 0
  | .sl e l, .slice none 0 0 => isFlatTy T e && Nat.beq l.length 0
  | .u, _ => true
  | _, _ => false

structure TyOK (P : Program) (T : Tab) (t : TypeId) : Prop where
  desc : match (T.at t).d with
    | .sc (.int k) => P.underlying t = some (.int k)
    | .sc .bool => P.underlying t = some .bool
    | .str => P.underlying t = some .string
    | .struct fs => ∃ F, P.underlying t = some (.struct F) ∧ F.toList.map (fun f => (f.offset, f.type)) = fs
    | .arr n e => P.underlying t = some (.array n e)
    | .slice e => P.underlying t = some (.slice e)
    | .ptr e => P.underlying t = some (.pointer e)
    | .map k e => P.underlying t = some (.map k e)
    | .fnB _ => ∃ a b c, P.underlying t = some (.func a b c)
    | .fnL _ _ => ∃ a b c, P.underlying t = some (.func a b c)
    | .other => True
  info : (T.at t).d matches .other ∨ ∃ ti z, P.info? t = some ti ∧ ti.size = (T.at t).size ∧ ti.bytes ≤ 1024 ∧ ti.zero = some z ∧ z.cells.size = (T.at t).size ∧ 0 < (T.at t).size ∧
    (isFlatTy T t = true → z.cells.toList = zipV (T.at t).ks (zeros (T.at t))) ∧ ((T.at t).d matches .str → z = .string .empty) ∧ (∀ e, (T.at t).d = .slice e → z = .slice none 0 0)
  zsc : ∀ sk, (T.at t).d = .sc sk → ∃ ti, P.info? t = some ti ∧ ti.zero = some (sk.val 0)
  zeroc : (T.at t).d matches .other ∨ isFlatTy T t = true ∨ ∃ ti z, P.info? t = some ti ∧ ti.zero = some z ∧ (∀ v ∈ z.cells.toList, v.oneCell' = true) ∧
    ∀ fs, (T.at t).d = .struct fs → (zeroFs T fs).length = (T.at t).size → ∀ (j : Nat) (oc : OC), (zeroFs T fs)[j]? = some oc → ∃ u, z.cells[j]? = some u ∧ zeroCell T oc u = true
  flat : isFlatTy T t = true → (T.at t).ks.length = (T.at t).size ∧ (match (T.at t).d with
    | .sc s => (T.at t).ks = [s]
    | .struct fs => ∀ i o u, fieldOf fs i = some (o, u) → isFlatTy T u = true ∧ o + (T.at u).size ≤ (T.at t).size ∧ ∀ j, j < (T.at u).size → (T.at t).ks[o + j]? = (T.at u).ks[j]?
    | .arr n e => isFlatTy T e = true ∧ (T.at t).size = n * (T.at e).size ∧ ∀ i j, i < n → j < (T.at e).size → (T.at t).ks[i * (T.at e).size + j]? = (T.at e).ks[j]?
    | _ => False)

def TabOK (P : Program) (T : Tab) : Prop := ∀ t, TyOK P T t

/-! ## Flat values -/

/-- The kind of cell j in rows of the kinds ks. -/
def kindAt (ks : List SK) (j : Nat) : SK := ks.getD (j % ks.length) .bool

theorem rd_cons_zero (a : Int) (l : List Int) : rd (a :: l) 0 = a := rfl
theorem rd_cons_succ (a : Int) (l : List Int) (j : Nat) : rd (a :: l) (j + 1) = rd l j := rfl

theorem zipV_getElem? (ks : List SK) : ∀ (l : List Int) (j : Nat), ks.length = l.length → j < l.length → (zipV ks l)[j]? = some ((ks.getD j .bool).val (rd l j)) := by
  induction ks with
  | nil => intro l j h hj; cases l <;> simp_all
  | cons k ks ih =>
    intro l j h hj
    cases l with
    | nil => simp at hj
    | cons n l =>
      cases j with
      | zero => rfl
      | succ j =>
        have := ih l j (by simpa using h) (by simpa using hj)
        simpa [zipV, rd_cons_succ] using this

theorem zipV_length (ks : List SK) : ∀ (l : List Int), ks.length = l.length → (zipV ks l).length = l.length := by
  induction ks with
  | nil => intro l h; cases l <;> simp_all [zipV]
  | cons k ks ih =>
    intro l h
    cases l with
    | nil => simp at h
    | cons n l => simp [zipV, ih l (by simpa using h)]

theorem getD_of_getElem? {α : Type} {a b : List α} {i j : Nat} (h : a[i]? = b[j]?) (d : α) : a.getD i d = b.getD j d := by
  simp [List.getD_eq_getElem?_getD, h]

theorem kindAt_lt {ks : List SK} {j : Nat} (h : j < ks.length) : kindAt ks j = ks.getD j .bool := by
  unfold kindAt; rw [Nat.mod_eq_of_lt h]

theorem kindAt_add {ks : List SK} (i j : Nat) : kindAt ks (i * ks.length + j) = kindAt ks j := by
  unfold kindAt; rw [Nat.add_comm, Nat.add_mul_mod_self_right]

/-- The cells of a flat payload: from address (b, o), n cells, those of l from off on, of the kinds ks (in rows). -/
def CellsAt (w : World) (b o : Nat) (ks : List SK) (l : List Int) (off n : Nat) : Prop :=
  ∀ j, j < n → w.cell? ⟨b, o + j, none⟩ = some ((kindAt ks j).val (rd l (off + j)))

/-- A value without references. -/
def FV (T : Tab) : V → Value → Prop
  | .int k n, u => u = .int k n
  | .bool b, u => u = .bool b
  | .str s, u => u = .string s
  | .agg t l, u => (T.at t).d.isAgg = true ∧ isFlatTy T t = true ∧ l.length = (T.at t).size ∧ ∃ arr : Array Value, u = .agg arr ∧ arr.toList = zipV (T.at t).ks l
  | _, _ => False

/-- A slice of flat elements, by value. -/
def SV (T : Tab) (w : World) (Fr : Nat → Prop) (e : TypeId) (l : List Int) (u : Value) : Prop :=
  isFlatTy T e = true ∧ ∃ (a : Option Addr) (n cap : Nat), u = .slice a n cap ∧ l.length = n * (T.at e).size ∧ n ≤ cap ∧ (n = 0 ∨ ∃ b o, a = some ⟨b, o, none⟩ ∧ Fr b ∧ CellsAt w b o (T.at e).ks l 0 l.length)

/-- An argument of a closure. -/
def AV (T : Tab) (w : World) (Fr : Nat → Prop) (a : TypeId) (l : List Int) (u : Value) : Prop :=
  match (T.at a).d with
  | .slice e => SV T w Fr e l u
  | .sc s => isFlatTy T a = true ∧ ∃ n, l = [n] ∧ u = s.val n
  | _ => FV T (.agg a l) u

/-- Later worlds: what stands still has stayed. -/
def Later (w : World) (Fr : Nat → Prop) (w' : World) (Fr' : Nat → Prop) : Prop := ∀ b, Fr b → Fr' b ∧ w'.heap[b]? = w.heap[b]?

theorem Later.refl (w : World) (Fr : Nat → Prop) : Later w Fr w Fr := fun _ h => ⟨h, rfl⟩
theorem Later.trans {w w' w'' : World} {Fr Fr' Fr'' : Nat → Prop} (h : Later w Fr w' Fr') (k : Later w' Fr' w'' Fr'') : Later w Fr w'' Fr'' :=
  fun b hb => ⟨(k b (h b hb).1).1, (k b (h b hb).1).2.trans (h b hb).2⟩

def HasBody (P : Program) (f : FuncId) : Prop := ∃ fn, P.funcs[f]? = some fn ∧ fn.body.isSome = true ∧ fn.name ≠ "runtime.NumGoroutine"

/-- The value of a function that answers a bool of one argument. -/
def CloB (P : Program) (T : Tab) (w : World) (Fr : Nat → Prop) (a : TypeId) (g : List Int → Option Bool) (u : Value) : Prop :=
  ∃ f first cap, u = .func (.func f) first cap ∧
    ∀ w' Fr' l r arg, Later w Fr w' Fr' → (∀ b, Fr' b → b < w'.heap.size) → g l = some r → AV T w' Fr' a l arg →
      HasBody P f ∧ Calls P f (first ++ #[arg] ++ cap) w' fun e w'' => e = .returned (.bool r) ∧ Below w'.heap.size w' w''

/-- A slice that a call has made, by value: nobody else has its block. -/
def OwnS (T : Tab) (w' : World) (base : Nat) (M : Nat → Prop) (e : TypeId) (d : D) (u : Value) (cells : Array Value → Nat → Prop) : Prop :=
  ∃ (a : Option Addr) (n cap : Nat), u = .slice a n cap ∧ d.len = n * (T.at e).size ∧ n ≤ cap ∧ cap ≤ maxLen ∧
    ((n = 0 ∧ cap = 0) ∨ ∃ b o arr, a = some ⟨b, o, none⟩ ∧ (base ≤ b ∨ M b) ∧ w'.heap[b]? = some (.cells arr e (0, 0)) ∧ o + cap * (T.at e).size ≤ arr.size ∧ cells arr o)

def IntsIn (ks : List SK) (l : List Int) (arr : Array Value) (o : Nat) : Prop := ∀ j, j < l.length → arr[o + j]? = some ((kindAt ks j).val (rd l j))

def CloL (P : Program) (T : Tab) (w : World) (Fr : Nat → Prop) (a e : TypeId) (g : List Int → Option (List Int)) (u : Value) : Prop :=
  ∃ f first cap, u = .func (.func f) first cap ∧
    ∀ w' Fr' l r arg, Later w Fr w' Fr' → (∀ b, Fr' b → b < w'.heap.size) → g l = some r → AV T w' Fr' a l arg →
      HasBody P f ∧ Calls P f (first ++ #[arg] ++ cap) w' fun en w'' => ∃ v, en = .returned v ∧ Below w'.heap.size w' w'' ∧ isFlatTy T e = true ∧ OwnS T w'' w'.heap.size (fun _ => False) e (.ints r) v (IntsIn (T.at e).ks r)

/-- A map whose elements are numbers or bools: key by key as told. -/
def MapI (T : Tab) (w : World) (b : Nat) (t : TypeId) (es : List (List Int × Int)) : Prop :=
  ∃ (kt et : TypeId) (sk : SK) (ents : Array MapEntry) (clock : Nat), (T.at t).d = .map kt et ∧ (T.at et).d = .sc sk ∧ w.heap[b]? = some (.map ents clock) ∧ ents.size = es.length ∧
    ∀ (i : Nat) (k : List Int) (n : Int), es[i]? = some (k, n) → ∃ e : MapEntry, ents[i]? = some e ∧ e.val = sk.val n ∧ FV T (.agg kt k) e.key

/-- A map whose elements are texts. -/
def MapS (T : Tab) (w : World) (b : Nat) (t : TypeId) (es : List (List Int × ByteArray)) : Prop :=
  ∃ (kt et : TypeId) (ents : Array MapEntry) (clock : Nat), (T.at t).d = .map kt et ∧ (T.at et).d = .str ∧ w.heap[b]? = some (.map ents clock) ∧ ents.size = es.length ∧
    ∀ (i : Nat) (k : List Int) (n : ByteArray), es[i]? = some (k, n) → ∃ e : MapEntry, ents[i]? = some e ∧ e.val = .string n ∧ FV T (.agg kt k) e.key

theorem MapI.of_heap {T : Tab} {w w' : World} {b : Nat} {t : TypeId} {es : List (List Int × Int)} (h : MapI T w b t es) (hh : w'.heap[b]? = w.heap[b]?) : MapI T w' b t es := by
  obtain ⟨kt, et, sk, ents, clock, h1, h2, h3, h4, h5⟩ := h
  exact ⟨kt, et, sk, ents, clock, h1, h2, hh.trans h3, h4, h5⟩

theorem MapS.of_heap {T : Tab} {w w' : World} {b : Nat} {t : TypeId} {es : List (List Int × ByteArray)} (h : MapS T w b t es) (hh : w'.heap[b]? = w.heap[b]?) : MapS T w' b t es := by
  obtain ⟨kt, et, ents, clock, h1, h2, h3, h4, h5⟩ := h
  exact ⟨kt, et, ents, clock, h1, h2, hh.trans h3, h4, h5⟩

/-- A cell, by value. -/
def OCB (T : Tab) (w : World) (Fr : Nat → Prop) : OC → Value → Prop
  | .i k n, u => u = .int k n
  | .b b, u => u = .bool b
  | .s b, u => u = .string b
  | .sl e l, u => SV T w Fr e l u
  | .m t es, u => ∃ b, u = .map (some b) ∧ Fr b ∧ MapI T w b t es
  | .u, _ => True

/-- Values by value. -/
inductive BV (P : Program) (T : Tab) (w : World) (Fr : Nat → Prop) : V → Value → Prop
  | undef (u : Value) : BV P T w Fr .undef u
  | skip : BV P T w Fr .skip Go.undef
  | nil : BV P T w Fr .nil (.slice none 0 0)
  | flat (v : V) (u : Value) : FV T v u → BV P T w Fr v u
  | slv (e : TypeId) (l : List Int) (u : Value) : SV T w Fr e l u → BV P T w Fr (.slv e l) u
  | slr (e e' : TypeId) (xss : List (List Int)) (a : Option Addr) (n cap : Nat) (us : Nat → Value) (b o : Nat) : (T.at e).d = .slice e' → isFlatTy T e = false → (T.at e).size = 1 → n = xss.length →
      (n = 0 ∨ (a = some ⟨b, o, none⟩ ∧ Fr b ∧ (∀ j, j < n → w.cell? ⟨b, o + j, none⟩ = some (us j)) ∧ ∀ j, j < n → SV T w Fr e' (rdr xss j) (us j))) → BV P T w Fr (.slr e xss) (.slice a n cap)
  | pvi (t0 : Option TypeId) (l : List Int) (off : Nat) (t : TypeId) (b o : Nat) : Fr b → isFlatTy T t = true → off + (T.at t).size ≤ l.length → CellsAt w b o (T.at t).ks l off (T.at t).size →
      (t0 = some t → off = 0 → l.length = (T.at t).size) → BV P T w Fr (.pvi t0 l off t) (.pointer (some ⟨b, o, none⟩))
  | pvv (vs : List V) (off : Nat) (t : TypeId) (b o : Nat) (us : Nat → Value) : Fr b → (∀ j v, vs[off + j]? = some v → w.cell? ⟨b, o + j, none⟩ = some (us j)) → (∀ j v, vs[off + j]? = some v → BV P T w Fr v (us j)) →
      BV P T w Fr (.pvv vs off t) (.pointer (some ⟨b, o, none⟩))
  | pvr (e e' : TypeId) (xss : List (List Int)) (i : Nat) (b o : Nat) (u : Value) : (T.at e).d = .slice e' → Fr b → w.cell? ⟨b, o, none⟩ = some u → SV T w Fr e' (rdr xss i) u →
      BV P T w Fr (.pvr e xss i) (.pointer (some ⟨b, o, none⟩))
  | cloB (a : TypeId) (g : List Int → Option Bool) (u : Value) : CloB P T w Fr a g u → BV P T w Fr (.cloB a g) u
  | cloL (a e : TypeId) (g : List Int → Option (List Int)) (u : Value) : CloL P T w Fr a e g u → BV P T w Fr (.cloL a e g) u
  | mapv (t : TypeId) (es : List (List Int × Int)) (b : Nat) : Fr b → MapI T w b t es → BV P T w Fr (.mapv t es) (.map (some b))
  | reco (t : TypeId) (cs : List OC) (arr : Array Value) : (T.at t).d.isAgg = true → cs.length = (T.at t).size → arr.size = cs.length → (∀ (j : Nat) (oc : OC), cs[j]? = some oc → ∃ u, arr[j]? = some u ∧ u.oneCell' = true ∧ OCB T w Fr oc u ∧ noMap oc = true) → BV P T w Fr (.reco t cs) (.agg arr)
  | pvo (cs : List OC) (off : Nat) (t : TypeId) (b o : Nat) : Fr b → (∀ (j : Nat) (oc : OC), cs[off + j]? = some oc → ∃ u, w.cell? ⟨b, o + j, none⟩ = some u ∧ u.oneCell' = true ∧ OCB T w Fr oc u) → BV P T w Fr (.pvo cs off t) (.pointer (some ⟨b, o, none⟩))

theorem cell_later {w w' : World} {b : Nat} (h : w'.heap[b]? = w.heap[b]?) (o : Nat) : w'.cell? ⟨b, o, none⟩ = w.cell? ⟨b, o, none⟩ := World.cell?_of_block (w := w) (a := ⟨b, o, none⟩) h

theorem SV.later {T : Tab} {w w' : World} {Fr Fr' : Nat → Prop} {e : TypeId} {l : List Int} {u : Value} (h : SV T w Fr e l u) (hl : Later w Fr w' Fr') : SV T w' Fr' e l u := by
  obtain ⟨hf, a, n, cap, hu, hn, hnc, hc⟩ := h
  refine ⟨hf, a, n, cap, hu, hn, hnc, hc.imp id ?_⟩
  rintro ⟨b, o, ha, hb, hcell⟩
  exact ⟨b, o, ha, (hl b hb).1, fun j hj => (cell_later (hl b hb).2 _).trans (hcell j hj)⟩

theorem CloB.later {P : Program} {T : Tab} {w w' : World} {Fr Fr' : Nat → Prop} {a : TypeId} {g : List Int → Option Bool} {u : Value} (h : CloB P T w Fr a g u) (hl : Later w Fr w' Fr') : CloB P T w' Fr' a g u := by
  obtain ⟨f, first, cap, hu, h⟩ := h
  exact ⟨f, first, cap, hu, fun w'' Fr'' l r arg h1 => h w'' Fr'' l r arg (hl.trans h1)⟩

theorem CloL.later {P : Program} {T : Tab} {w w' : World} {Fr Fr' : Nat → Prop} {a e : TypeId} {g : List Int → Option (List Int)} {u : Value} (h : CloL P T w Fr a e g u) (hl : Later w Fr w' Fr') : CloL P T w' Fr' a e g u := by
  obtain ⟨f, first, cap, hu, h⟩ := h
  exact ⟨f, first, cap, hu, fun w'' Fr'' l r arg h1 => h w'' Fr'' l r arg (hl.trans h1)⟩

theorem OCB.later {T : Tab} {w w' : World} {Fr Fr' : Nat → Prop} {oc : OC} {u : Value} (h : OCB T w Fr oc u) (hl : Later w Fr w' Fr') : OCB T w' Fr' oc u := by
  cases oc with
  | sl e l => exact SV.later h hl
  | m t es =>
    obtain ⟨b, h1, h2, h3⟩ := h
    exact ⟨b, h1, (hl b h2).1, h3.of_heap (hl b h2).2⟩
  | _ => exact h

theorem BV.later {P : Program} {T : Tab} {w w' : World} {Fr Fr' : Nat → Prop} {v : V} {u : Value} (h : BV P T w Fr v u) (hl : Later w Fr w' Fr') : BV P T w' Fr' v u := by
  induction h with
  | undef u => exact .undef u
  | skip => exact .skip
  | nil => exact .nil
  | flat v u h => exact .flat v u h
  | slv e l u h => exact .slv e l u (h.later hl)
  | slr e e' xss a n cap us b o h1 h2 h3 h4 h5 =>
    refine .slr e e' xss a n cap us b o h1 h2 h3 h4 (h5.imp id ?_)
    rintro ⟨ha, hb, hc, hs⟩
    exact ⟨ha, (hl b hb).1, fun j hj => (cell_later (hl b hb).2 _).trans (hc j hj), fun j hj => (hs j hj).later hl⟩
  | pvi t0 l off t b o hb h1 h2 hc h3 => exact .pvi t0 l off t b o (hl b hb).1 h1 h2 (fun j hj => (cell_later (hl b hb).2 _).trans (hc j hj)) h3
  | pvv vs off t b o us hb hc _ ih => exact .pvv vs off t b o us (hl b hb).1 (fun j v hj => (cell_later (hl b hb).2 _).trans (hc j v hj)) ih
  | pvr e e' xss i b o u h1 hb hc hs => exact .pvr e e' xss i b o u h1 (hl b hb).1 ((cell_later (hl b hb).2 _).trans hc) (hs.later hl)
  | cloB a g u h => exact .cloB a g u (h.later hl)
  | cloL a e g u h => exact .cloL a e g u (h.later hl)
  | mapv t es b hb h => exact .mapv t es b (hl b hb).1 (h.of_heap (hl b hb).2)
  | reco t cs arr h0 h1 h2 h3 => exact .reco t cs arr h0 h1 h2 fun j oc hj => let ⟨u, q1, q2, q3, q4⟩ := h3 j oc hj; ⟨u, q1, q2, q3.later hl, q4⟩
  | pvo cs off t b o hb h => exact .pvo cs off t b o (hl b hb).1 fun j oc hj => let ⟨u, q1, q0, q2⟩ := h j oc hj; ⟨u, (cell_later (hl b hb).2 _).trans q1, q0, q2.later hl⟩

/-! ## Local values -/

/-- A block's size; and where what lies in its cells lies: block, first cell, size. -/
structure Lim where
  n : Nat
  c : Nat → Option (Nat × Nat × Nat)

def leaf (n : Nat) : Lim := ⟨n, fun _ => none⟩
theorem leaf_n (n : Nat) : (leaf n).n = n := rfl
theorem leaf_c (n i : Nat) : (leaf n).c i = none := rfl

/-- Where an own block lies: the kit's block, the first cell, the block's size; none: no block (a nil slice). -/
abbrev Loc := Option (Nat × Nat × Lim)

/-- The kit's blocks that go with it. -/
def Loc.owns (l : Loc) (b : Nat) : Prop := ∃ b0 base lim, l = some (b0, base, lim) ∧ (b0 = b ∨ ∃ i q, lim.c i = some (b, q))

theorem owns_main {l : Loc} {b base : Nat} {lim : Lim} (h : l = some (b, base, lim)) : l.owns b := ⟨b, base, lim, h, .inl rfl⟩
theorem owns_kid {l : Loc} {b0 base b i : Nat} {lim : Lim} {q : Nat × Nat} (h : l = some (b0, base, lim)) (hc : lim.c i = some (b, q)) : l.owns b := ⟨b0, base, lim, h, .inr ⟨i, q, hc⟩⟩
theorem owns_none {b : Nat} : ¬ Loc.owns none b := fun ⟨_, _, _, h, _⟩ => by cases h
theorem owns_leaf {b base n b' : Nat} (h : Loc.owns (some (b, base, leaf n)) b') : b' = b := by
  obtain ⟨b0, base0, lim, h1, h2⟩ := h
  injection h1 with h1
  injection h1 with e1 h1
  injection h1 with e2 e3
  subst e1 e3
  rcases h2 with h2 | ⟨i, q, h2⟩
  · exact h2.symm
  · cases h2
theorem owns_some {b base b' : Nat} {lim : Lim} (h : Loc.owns (some (b, base, lim)) b') : b' = b ∨ ∃ i q, lim.c i = some (b', q) := by
  obtain ⟨b0, base0, lim0, h1, h2⟩ := h
  injection h1 with h1
  injection h1 with e1 h1
  injection h1 with e2 e3
  subst e1 e3
  exact h2.imp Eq.symm id

/-- A row of rows of one's own. -/
def RowAt (T : Tab) (w : World) (c : Nat → Option (Nat × Nat × Nat)) (j : Nat) (e : TypeId) (l : List Int) (u : Value) : Prop :=
  ∃ (a : Option Addr) (n cap : Nat), u = .slice a n cap ∧ l.length = n * (T.at e).size ∧ n ≤ cap ∧ cap ≤ maxLen ∧
    ((n = 0 ∧ cap = 0 ∧ c j = none) ∨ ∃ b o lim arr, c j = some (b, o, lim) ∧ a = some ⟨b, o, none⟩ ∧ o + cap * (T.at e).size ≤ lim ∧ w.heap[b]? = some (.cells arr e (0, 0)) ∧ arr.size = lim ∧ IntsIn (T.at e).ks l arr o)

def TyAt (T : Tab) (bk : Blk) (off : Nat) (t : TypeId) : Prop :=
  match bk.d with
  | .ints l => isFlatTy T t = true ∧ isFlatTy T bk.e = true ∧ off + (T.at t).size ≤ l.length ∧ (∀ j, j < (T.at t).size → kindAt (T.at bk.e).ks (off + j) = kindAt (T.at t).ks j) ∧
      (bk.r = true → l.length = (T.at bk.e).size)
  | .rows xss => off < xss.length ∧ bk.e = t
  | .orows _ xss => off < xss.length ∧ bk.e = t
  | .vals _ => True
  | .obj _ => True
  | _ => False

def D.isMap : D → Bool
  | .mapI _ | .mapS _ => true
  | _ => false

/-- Local values: references are to own blocks. -/
inductive LV (P : Program) (T : Tab) (w : World) (Fr : Nat → Prop) (blk : Nat → Option Blk) (ρ : Nat → Loc) : V → Value → Prop
  | bv (v : V) (u : Value) : BV P T w Fr v u → LV P T w Fr blk ρ v u
  | ptr (k off : Nat) (t : TypeId) (bk : Blk) (b base : Nat) (lim : Lim) : blk k = some bk → ρ k = some (b, base, lim) → TyAt T bk off t → LV P T w Fr blk ρ (.ptr k off t) (.pointer (some ⟨b, base + off, none⟩))
  | slw (k : Nat) (e : TypeId) (bk : Blk) (b base : Nat) (lim : Lim) (n cap : Nat) : blk k = some bk → bk.e = e → bk.r = false → ρ k = some (b, base, lim) → bk.d.len = n * (T.at e).size → n ≤ cap → cap ≤ maxLen → base + cap * (T.at e).size ≤ lim.n →
      LV P T w Fr blk ρ (.slw k e) (.slice (some ⟨b, base, none⟩) n cap)
  | slwNil (k : Nat) (e : TypeId) (bk : Blk) (a : Option Addr) : blk k = some bk → bk.e = e → bk.r = false → ρ k = none → bk.d.len = 0 → LV P T w Fr blk ρ (.slw k e) (.slice a 0 0)
  | sl (k off n : Nat) (e : TypeId) (e0 : TypeId) (r : Bool) (l : List Int) (a : Option Addr) (cap : Nat) : blk k = some ⟨e0, r, .ints l⟩ → isFlatTy T e0 = true → isFlatTy T e = true → off + n * (T.at e).size ≤ l.length →
      (∀ j, j < n * (T.at e).size → kindAt (T.at e0).ks (off + j) = kindAt (T.at e).ks j) → (r = true → l.length = (T.at e0).size) → n ≤ cap → cap ≤ maxLen →
      (cap = 0 ∨ ∃ b base lim, ρ k = some (b, base, lim) ∧ a = some ⟨b, base + off, none⟩ ∧ base + off + cap * (T.at e).size ≤ lim.n) → LV P T w Fr blk ρ (.sl k off n e) (.slice a n cap)
  | tup (vs : List V) (arr : Array Value) : arr.size = vs.length → (∀ i v, vs[i]? = some v → LV P T w Fr blk ρ v (arr.getD i Go.undef)) → LV P T w Fr blk ρ (.tup vs) (.tuple arr)
  | fn (f : FuncId) (first cap : List V) (a c : Array Value) : a.size = first.length → c.size = cap.length → (∀ i v, first[i]? = some v → LV P T w Fr blk ρ v (a.getD i Go.undef)) →
      (∀ i v, cap[i]? = some v → LV P T w Fr blk ρ v (c.getD i Go.undef)) → LV P T w Fr blk ρ (.fn f first cap) (.func (.func f) a c)
  | mapk (k : Nat) (t : TypeId) (bk : Blk) (b base : Nat) (lim : Lim) : blk k = some bk → bk.e = t → bk.d.isMap = true → ρ k = some (b, base, lim) → LV P T w Fr blk ρ (.mapk k t) (.map (some b))
  | mapc (k i : Nat) (t : TypeId) (bk : Blk) (cs : List OC) (es : List (List Int × Int)) (b0 base b : Nat) (lim : Lim) (q : Nat × Nat) : blk k = some bk → bk.d = .obj cs → cs[i]? = some (.m t es) → ρ k = some (b0, base, lim) → lim.c i = some (b, q) → LV P T w Fr blk ρ (.mapc k i t) (.map (some b))
  | row (k i : Nat) (e : TypeId) (bk : Blk) (xss : List (List Int)) (b0 base : Nat) (lim : Lim) (a : Option Addr) (n cap : Nat) : blk k = some bk → bk.d = .orows e xss → i < xss.length → (rdr xss i).length = n * (T.at e).size → ρ k = some (b0, base, lim) → n ≤ cap → cap ≤ maxLen →
      ((n = 0 ∧ cap = 0 ∧ lim.c i = none) ∨ ∃ b o m, lim.c i = some (b, o, m) ∧ a = some ⟨b, o, none⟩ ∧ o + cap * (T.at e).size ≤ m) → LV P T w Fr blk ρ (.row k i e) (.slice a n cap)
  | ptrr (k i off : Nat) (t e : TypeId) (bk : Blk) (xss : List (List Int)) (b0 base b o m : Nat) (lim : Lim) : blk k = some bk → bk.d = .orows e xss → i < xss.length → ρ k = some (b0, base, lim) → lim.c i = some (b, o, m) → isFlatTy T t = true →
      off + (T.at t).size ≤ (rdr xss i).length → (∀ j, j < (T.at t).size → kindAt (T.at e).ks (off + j) = kindAt (T.at t).ks j) → LV P T w Fr blk ρ (.ptrr k i off t) (.pointer (some ⟨b, o + off, none⟩))

/-- Two contents of one shape: references stay right. -/
def D.alike : D → D → Prop
  | .ints a, .ints b => a.length = b.length
  | .rows a, .rows b => a.length = b.length
  | .vals a, .vals b => a.length = b.length
  | .mapI _, .mapI _ => True
  | .mapS _, .mapS _ => True
  | .orows e a, .orows e' b => e = e' ∧ a.length = b.length ∧ ∀ i, (rdr a i).length = (rdr b i).length
  | .obj a, .obj b => a.length = b.length ∧ ∀ (i : Nat) (t : TypeId) (es : List (List Int × Int)), a[i]? = some (OC.m t es) → ∃ es' : List (List Int × Int), b[i]? = some (OC.m t es')
  | _, _ => False

/-- Two contents that a reference to the whole, or to a cell, does not tell apart. -/
def D.likeW : D → D → Prop
  | .ints a, .ints b => a.length = b.length
  | .rows a, .rows b => a.length = b.length
  | .vals a, .vals b => a.length = b.length
  | .mapI _, .mapI _ => True
  | .mapS _, .mapS _ => True
  | .orows e a, .orows e' b => e = e' ∧ a.length = b.length
  | .obj a, .obj b => a.length = b.length
  | _, _ => False

theorem D.alike.weak {x y : D} (h : x.alike y) : x.likeW y := by
  cases x <;> cases y <;> first | exact h | exact ⟨h.1, h.2.1⟩ | exact h.1

def LocW (l l' : Loc) : Prop := (l = none → l' = none) ∧ ∀ b base lim, l = some (b, base, lim) → ∃ lim' : Lim, l' = some (b, base, lim') ∧ lim'.n = lim.n
theorem LocW.rfl' (l : Loc) : LocW l l := ⟨id, fun b base lim h => ⟨lim, h, rfl⟩⟩

def Blk.alike (x y : Blk) : Prop := x.e = y.e ∧ x.r = y.r ∧ x.d.alike y.d

theorem D.alike.len {x y : D} (h : x.alike y) : y.len = x.len := by
  cases x <;> cases y <;> simp_all [D.alike, D.len]

theorem D.alike.isMap {x y : D} (h : x.alike y) : y.isMap = x.isMap := by
  cases x <;> cases y <;> simp_all [D.alike, D.isMap]

theorem D.alike.rfl' (x : D) : x.alike x := by
  cases x <;> simp [D.alike]
  exact fun i t es h => ⟨es, h⟩

theorem Blk.alike_rfl (x : Blk) : x.alike x := ⟨rfl, rfl, D.alike.rfl' _⟩

/-- The old blocks that are handed over; the blocks that may be looked at. -/
structure Mo where
  m : Nat → Prop
  a : Nat → Prop

theorem TyAt.alike {T : Tab} {x y : Blk} {off : Nat} {t : TypeId} (h : TyAt T x off t) (ha : x.alike y) : TyAt T y off t := by
  obtain ⟨e, r, d⟩ := x
  obtain ⟨e', r', d'⟩ := y
  obtain ⟨h1, h2, h3⟩ := ha
  simp only at h1 h2 h3
  subst h1 h2
  cases d <;> cases d' <;> simp_all [D.alike, TyAt]

structure Keeps (v : V) (k : Nat) (bk bk' : Blk) (l l' : Loc) : Prop where
  e : bk.e = bk'.e
  r : bk.r = bk'.r
  d : bk.d.likeW bk'.d
  lw : LocW l l'
  kids : V.deep k v = true → l' = l ∧ bk.alike bk'

theorem Keeps.of {v : V} {k : Nat} {bk bk' : Blk} {l l' : Loc} (h1 : l' = l) (h2 : bk.alike bk') : Keeps v k bk bk' l l' := ⟨h2.1, h2.2.1, h2.2.2.weak, h1 ▸ LocW.rfl' _, fun _ => ⟨h1, h2⟩⟩

theorem D.likeW.len {x y : D} (h : x.likeW y) : y.len = x.len := by
  cases x <;> cases y <;> simp_all [D.likeW, D.len]

theorem D.likeW.isMap {x y : D} (h : x.likeW y) : y.isMap = x.isMap := by
  cases x <;> cases y <;> simp_all [D.likeW, D.isMap]

theorem TyAt.like {T : Tab} {x y : Blk} {off : Nat} {t : TypeId} (h : TyAt T x off t) (h1 : x.e = y.e) (h2 : x.r = y.r) (h3 : x.d.likeW y.d) : TyAt T y off t := by
  obtain ⟨e, r, d⟩ := x
  obtain ⟨e', r', d'⟩ := y
  simp only at h1 h2 h3
  subst h1 h2
  cases d <;> cases d' <;> simp_all [D.likeW, TyAt]

theorem deepL_of : ∀ (vs : List V) (i : Nat) (v : V) (k : Nat), vs[i]? = some v → V.deep k v = true → V.deepL k vs = true := by
  intro vs
  induction vs with
  | nil => intro i v k hv; simp at hv
  | cons x r ihr =>
    intro i v k hv hh
    cases i with
    | zero => simp at hv; subst hv; simp [V.deepL, hh]
    | succ i => simp only [V.deepL, Bool.or_eq_true]; exact .inr (ihr i v k (by simpa using hv) hh)

theorem Keeps.sub {v v' : V} {k : Nat} {bk bk' : Blk} {l l' : Loc} (h : Keeps v k bk bk' l l') (hs : V.deep k v' = true → V.deep k v = true) : Keeps v' k bk bk' l l' := ⟨h.e, h.r, h.d, h.lw, fun hd => h.kids (hs hd)⟩

theorem hasL_of : ∀ (vs : List V) (i : Nat) (v : V) (k : Nat), vs[i]? = some v → V.has k v = true → V.hasL k vs = true := by
  intro vs
  induction vs with
  | nil => intro i v k hv; simp at hv
  | cons x r ihr =>
    intro i v k hv hh
    cases i with
    | zero => simp at hv; subst hv; simp [V.hasL, hh]
    | succ i => simp only [V.hasL, Bool.or_eq_true]; exact .inr (ihr i v k (by simpa using hv) hh)

theorem LV.moveW {P : Program} {T : Tab} {w w' : World} {Fr Fr' : Nat → Prop} {blk blk' : Nat → Option Blk} {ρ ρ' : Nat → Loc} {v : V} {u : Value} (h : LV P T w Fr blk ρ v u) (hl : Later w Fr w' Fr')
    (hk : ∀ k bk, V.has k v = true → blk k = some bk → ∃ bk', blk' k = some bk' ∧ Keeps v k bk bk' (ρ k) (ρ' k)) : LV P T w' Fr' blk' ρ' v u := by
  induction h with
  | bv v u h => exact .bv v u (h.later hl)
  | ptr k off t bk b base lim h1 h2 h3 =>
    obtain ⟨bk', e2, K⟩ := hk k bk (by simp [V.has]) h1
    obtain ⟨lim', e3, e4⟩ := K.lw.2 b base lim h2
    exact .ptr k off t bk' b base lim' e2 e3 (h3.like K.e K.r K.d)
  | slw k e bk b base lim n cap h1 h2 h3 h4 h5 h6 h7 h8 =>
    obtain ⟨bk', e2, K⟩ := hk k bk (by simp [V.has]) h1
    obtain ⟨lim', e3, e4⟩ := K.lw.2 b base lim h4
    exact .slw k e bk' b base lim' n cap e2 (K.e ▸ h2) (K.r ▸ h3) e3 (K.d.len.trans h5) h6 h7 (e4 ▸ h8)
  | slwNil k e bk a h1 h2 h3 h4 h5 =>
    obtain ⟨bk', e2, K⟩ := hk k bk (by simp [V.has]) h1
    exact .slwNil k e bk' a e2 (K.e ▸ h2) (K.r ▸ h3) (K.lw.1 h4) (K.d.len.trans h5)
  | sl k off n e e0 r l a cap h1 h2 h3 h4 h5 h5r h6 h7 h8 =>
    obtain ⟨⟨e0', r', d'⟩, e2, K⟩ := hk k _ (by simp [V.has]) h1
    have e3 := K.e
    have e4 := K.r
    have e5 := K.d
    simp only at e3 e4 e5
    subst e3 e4
    cases d' with
    | ints l' =>
      have hlen : l.length = l'.length := e5
      refine .sl k off n e _ _ l' a cap e2 h2 h3 (hlen ▸ h4) h5 (fun hr => hlen ▸ h5r hr) h6 h7 (h8.imp id ?_)
      rintro ⟨b, base, lim, g1, g2, g3⟩
      obtain ⟨lim', q1, q2⟩ := K.lw.2 b base lim g1
      exact ⟨b, base, lim', q1, g2, q2 ▸ g3⟩
    | _ => exact e5.elim
  | tup vs arr h1 _ ih => exact .tup vs arr h1 fun i v hv => ih i v hv fun k bk hh hb => let ⟨bk', q1, q2⟩ := hk k bk (by simp [V.has, hasL_of vs i v k hv hh]) hb; ⟨bk', q1, q2.sub fun hd => by simp [V.deep, deepL_of vs i v k hv hd]⟩
  | fn f first cap a c h1 h2 _ _ ih1 ih2 =>
    exact .fn f first cap a c h1 h2 (fun i v hv => ih1 i v hv fun k bk hh hb => let ⟨bk', q1, q2⟩ := hk k bk (by simp [V.has, hasL_of first i v k hv hh]) hb; ⟨bk', q1, q2.sub fun hd => by simp [V.deep, deepL_of first i v k hv hd]⟩)
      (fun i v hv => ih2 i v hv fun k bk hh hb => let ⟨bk', q1, q2⟩ := hk k bk (by simp [V.has, hasL_of cap i v k hv hh]) hb; ⟨bk', q1, q2.sub fun hd => by simp [V.deep, deepL_of cap i v k hv hd]⟩)
  | mapk k t bk b base lim h1 h2 h3 h4 =>
    obtain ⟨bk', e2, K⟩ := hk k bk (by simp [V.has]) h1
    obtain ⟨lim', e3, e4⟩ := K.lw.2 b base lim h4
    exact .mapk k t bk' b base lim' e2 (K.e ▸ h2) (K.d.isMap.trans h3) e3
  | mapc k i t bk cs es b0 base b lim q h1 h2 h3 h4 h5 =>
    obtain ⟨⟨e', r', d'⟩, e2, K⟩ := hk k bk (by simp [V.has]) h1
    obtain ⟨e1, _, _, e5⟩ := K.kids (by simp [V.deep])
    rw [h2] at e5
    cases d' with
    | obj cs' =>
      obtain ⟨_, e5⟩ := e5
      obtain ⟨es', e6⟩ := e5 i t es h3
      exact .mapc k i t _ cs' es' b0 base b lim q e2 rfl e6 (e1.trans h4) h5
    | _ => exact e5.elim
  | row k i e bk xss b0 base lim a n cap h1 h2 h3 h4 h5 h6 h7 h8 =>
    obtain ⟨⟨e', r', d'⟩, e2, K⟩ := hk k bk (by simp [V.has]) h1
    obtain ⟨e1, _, _, e5⟩ := K.kids (by simp [V.deep])
    rw [h2] at e5
    cases d' with
    | orows e1' xss' =>
      obtain ⟨q1, q2, q3⟩ := e5
      subst q1
      exact .row k i e _ xss' b0 base lim a n cap e2 rfl (q2 ▸ h3) ((q3 i).symm.trans h4) (e1.trans h5) h6 h7 h8
    | _ => exact e5.elim
  | ptrr k i off t e bk xss b0 base b o m lim h1 h2 h3 h4 h5 h6 h7 h8 =>
    obtain ⟨⟨e', r', d'⟩, e2, K⟩ := hk k bk (by simp [V.has]) h1
    obtain ⟨e1, _, _, e5⟩ := K.kids (by simp [V.deep])
    rw [h2] at e5
    cases d' with
    | orows e1' xss' =>
      obtain ⟨q1, q2, q3⟩ := e5
      subst q1
      exact .ptrr k i off t e _ xss' b0 base b o m lim e2 rfl (q2 ▸ h3) (e1.trans h4) h5 h6 (q3 i ▸ h7) h8
    | _ => exact e5.elim

theorem LV.move {P : Program} {T : Tab} {w w' : World} {Fr Fr' : Nat → Prop} {blk blk' : Nat → Option Blk} {ρ ρ' : Nat → Loc} {v : V} {u : Value} (h : LV P T w Fr blk ρ v u) (hl : Later w Fr w' Fr')
    (hk : ∀ k bk, V.has k v = true → blk k = some bk → ρ' k = ρ k ∧ ∃ bk', blk' k = some bk' ∧ bk.alike bk') : LV P T w' Fr' blk' ρ' v u :=
  h.moveW hl fun k bk hh hb => let ⟨e, bk', q1, q2⟩ := hk k bk hh hb; ⟨bk', q1, .of e q2⟩

end Go.Ev
end

section
/- The relation between the evaluator's state and the kit's frame and world, and how it is kept. -/
namespace Go.Ev
open Go.RowKit (Below)

variable {P : Program} {T : Tab}

/-- A cell of one's own. -/
def OCO (T : Tab) (w : World) (Fr : Nat → Prop) (c : Nat → Option (Nat × Nat × Nat)) (j : Nat) : OC → Value → Prop
  | .m t es, u => ∃ b q, c j = some (b, q) ∧ u = .map (some b) ∧ MapI T w b t es
  | oc, u => OCB T w Fr oc u

def isMc : OC → Bool
  | .m _ _ => true
  | _ => false

def ArrOK (P : Program) (T : Tab) (w : World) (Fr : Nat → Prop) (e : TypeId) (d : D) (arr : Array Value) (base : Nat) (c : Nat → Option (Nat × Nat × Nat)) : Prop :=
  match d with
  | .ints l => isFlatTy T e = true ∧ IntsIn (T.at e).ks l arr base
  | .rows xss => isFlatTy T e = false ∧ (T.at e).size = 1 ∧ ∃ e', (T.at e).d = .slice e' ∧ ∀ j, j < xss.length → ∃ u, arr[base + j]? = some u ∧ SV T w Fr e' (rdr xss j) u
  | .vals vs => ∀ j v, vs[j]? = some v → ∃ u, arr[base + j]? = some u ∧ BV P T w Fr v u
  | .orows e' xss => (isFlatTy T e = false ∧ (T.at e).size = 1 ∧ (T.at e).d = .slice e' ∧ isFlatTy T e' = true) ∧ (∀ j, j < xss.length → ∃ u, arr[base + j]? = some u ∧ RowAt T w c j e' (rdr xss j) u) ∧
      ∀ i j b q q', i < xss.length → j < xss.length → c i = some (b, q) → c j = some (b, q') → i = j
  | .obj cs => (∀ (j : Nat) (oc : OC), cs[j]? = some oc → ∃ u, arr[base + j]? = some u ∧ u.oneCell' = true ∧ OCO T w Fr c j oc u) ∧
      ∀ (i j b : Nat) (q q' : Nat × Nat), isMc (rdo cs i) = true → isMc (rdo cs j) = true → c i = some (b, q) → c j = some (b, q') → i = j
  | _ => False

def OB (P : Program) (T : Tab) (w : World) (Fr : Nat → Prop) (bk : Blk) : Loc → Prop
  | none => bk.r = false ∧ bk.d.len = 0 ∧ (match bk.d with
    | .ints _ => isFlatTy T bk.e = true
    | .rows _ => isFlatTy T bk.e = false ∧ (T.at bk.e).size = 1 ∧ ∃ e', (T.at bk.e).d = .slice e'
    | .orows e' _ => isFlatTy T bk.e = false ∧ (T.at bk.e).size = 1 ∧ (T.at bk.e).d = .slice e' ∧ isFlatTy T e' = true
    | _ => False)
  | some (b, base, lim) => match bk.d with
    | .mapI es => MapI T w b bk.e es
    | .mapS es => MapS T w b bk.e es
    | d => ∃ arr, w.heap[b]? = some (.cells arr bk.e (0, 0)) ∧ arr.size = lim.n ∧ ArrOK P T w Fr bk.e d arr base lim.c

theorem ob_arr {w : World} {Fr : Nat → Prop} {e : TypeId} {r : Bool} {d : D} {b base : Nat} {lim : Lim} (hm : d.isMap = false) :
    OB P T w Fr ⟨e, r, d⟩ (some (b, base, lim)) ↔ ∃ arr, w.heap[b]? = some (.cells arr e (0, 0)) ∧ arr.size = lim.n ∧ ArrOK P T w Fr e d arr base lim.c := by
  cases d <;> first | exact Iff.rfl | cases hm

theorem arrOK_isMap {w : World} {Fr : Nat → Prop} {e : TypeId} {d : D} {arr : Array Value} {base : Nat} {c : Nat → Option (Nat × Nat × Nat)} (h : ArrOK P T w Fr e d arr base c) : d.isMap = false := by
  cases d <;> first | rfl | exact h.elim

/-- Blocks that nobody of one's own holds, and that may be looked at. -/
structure FrOf (A : Nat → Prop) (blk : Nat → Option Blk) (ρ : Nat → Loc) (w : World) (b : Nat) : Prop where
  lt : b < w.heap.size
  no : ∀ k bk, blk k = some bk → (ρ k).owns b → False
  ac : A b

theorem FrOf.main {A : Nat → Prop} {blk : Nat → Option Blk} {ρ : Nat → Loc} {w : World} {b : Nat} (h : FrOf A blk ρ w b) : ∀ k bk base lim, blk k = some bk → ρ k = some (b, base, lim) → False :=
  fun k bk _ _ hk hρ => h.no k bk hk (owns_main hρ)

structure RelAt (P : Program) (T : Tab) (w0 : World) (M : Mo) (N : Nat → Loc × Blk) (ρ : Nat → Loc) (s : St) (a : Act) (w : World) : Prop where
  os : w.os = w0.os
  tape : w.tape = w0.tape
  output : w.output = w0.output
  size : w0.heap.size ≤ w.heap.size
  old : ∀ b, b < w0.heap.size → ¬ M.m b → w.heap[b]? = w0.heap[b]?
  defers : a.defers = []
  tn : a.tmps.size = s.n
  acc : ∀ b, w0.heap.size ≤ b ∨ M.m b → M.a b
  own : ∀ k bk b, s.blk k = some bk → (ρ k).owns b → b < w.heap.size ∧ (w0.heap.size ≤ b ∨ M.m b)
  one : ∀ k k' bk bk' b, s.blk k = some bk → s.blk k' = some bk' → (ρ k).owns b → (ρ k').owns b → k = k'
  ob : ∀ k bk, s.blk k = some bk → OB P T w (FrOf M.a s.blk ρ w) bk (ρ k)
  lv : ∀ t, LV P T w (FrOf M.a s.blk ρ w) s.blk ρ (s.get t) (a.tmps.getD t undef)
  pin : ∀ k, s.n ≤ k → ρ k = (N k).1 ∧ ∀ bk, s.blk k = some bk → (N k).2.alike bk

theorem RelAt.loc {P : Program} {T : Tab} {w0 w : World} {M : Mo} {N : Nat → Loc × Blk} {ρ : Nat → Loc} {s : St} {a : Act} (h : RelAt P T w0 M N ρ s a w) (k : Nat) (bk : Blk) (b base : Nat) (lim : Lim) (hk : s.blk k = some bk) (hρ : ρ k = some (b, base, lim)) :
    b < w.heap.size ∧ (w0.heap.size ≤ b ∨ M.m b) := h.own k bk b hk (owns_main hρ)

theorem RelAt.inj {P : Program} {T : Tab} {w0 w : World} {M : Mo} {N : Nat → Loc × Blk} {ρ : Nat → Loc} {s : St} {a : Act} (h : RelAt P T w0 M N ρ s a w) (k k' : Nat) (bk bk' : Blk) (b base base' : Nat) (lim lim' : Lim) (hk : s.blk k = some bk) (hk' : s.blk k' = some bk')
    (hρ : ρ k = some (b, base, lim)) (hρ' : ρ k' = some (b, base', lim')) : k = k' := h.one k k' bk bk' b hk hk' (owns_main hρ) (owns_main hρ')

theorem alike_trans {x y z : Blk} (h1 : x.alike y) (h2 : y.alike z) : x.alike z := by
  refine ⟨h1.1.trans h2.1, h1.2.1.trans h2.2.1, ?_⟩
  have a := h1.2.2
  have b := h2.2.2
  revert a b
  generalize x.d = p, y.d = q, z.d = r
  intro a b
  cases p <;> cases q <;> cases r <;> first | exact a.elim | exact b.elim | trivial | exact Eq.trans a b | skip
  · obtain ⟨a1, a2, a3⟩ := a
    obtain ⟨b1, b2, b3⟩ := b
    exact ⟨a1.trans b1, a2.trans b2, fun i => (a3 i).trans (b3 i)⟩
  · obtain ⟨a1, a2⟩ := a
    obtain ⟨b1, b2⟩ := b
    refine ⟨a1.trans b1, fun i t es hi => ?_⟩
    obtain ⟨es', h⟩ := a2 i t es hi
    exact b2 i t es' h

def upd (ρ : Nat → Loc) (k : Nat) (l : Loc) : Nat → Loc := fun j => if j = k then l else ρ j
theorem upd_self (ρ : Nat → Loc) (k : Nat) (l : Loc) : upd ρ k l k = l := by simp [upd]
theorem upd_ne (ρ : Nat → Loc) {k j : Nat} (l : Loc) (h : j ≠ k) : upd ρ k l j = ρ j := by simp [upd, h]

theorem beq_self' (n : Nat) : Nat.beq n n = true := Nat.beq_refl n
theorem beq_ne {a b : Nat} (h : a ≠ b) : Nat.beq a b = false := by
  cases hb : Nat.beq a b with
  | false => rfl
  | true => exact absurd (Nat.eq_of_beq_eq_true hb) h

theorem look_cons_self {α : Type} (d : α) (i : Nat) (v : α) (r : List (Nat × α)) : look d ((i, v) :: r) i = v := by simp [look]
theorem look_cons_ne {α : Type} (d : α) {i t : Nat} (v : α) (r : List (Nat × α)) (h : i ≠ t) : look d ((i, v) :: r) t = look d r t := by simp [look, beq_ne h]

theorem get_put_self (s : St) (d : Nat) (v : V) : (s.put d v).get d = v := look_cons_self _ _ _ _
theorem get_put_ne (s : St) {d t : Nat} (v : V) (h : d ≠ t) : (s.put d v).get t = s.get t := look_cons_ne _ _ _ h
theorem blk_put (s : St) (d : Nat) (v : V) : (s.put d v).blk = s.blk := rfl
theorem get_setB (s : St) (k : Nat) (b : Blk) : (s.setB k b).get = s.get := rfl
theorem blk_setB_self (s : St) (k : Nat) (b : Blk) : (s.setB k b).blk k = some b := look_cons_self _ _ _ _
theorem blk_setB_ne (s : St) {k j : Nat} (b : Blk) (h : k ≠ j) : (s.setB k b).blk j = s.blk j := look_cons_ne _ _ _ h
theorem get_drop (s : St) (k : Nat) : (s.drop k).get = s.get := rfl
theorem blk_drop_self (s : St) (k : Nat) : (s.drop k).blk k = none := look_cons_self _ _ _ _
theorem blk_drop_ne (s : St) {k j : Nat} (h : k ≠ j) : (s.drop k).blk j = s.blk j := look_cons_ne _ _ _ h
theorem blk_kill (s : St) (k : Nat) : (s.kill k).blk = s.blk := rfl
theorem get_kill (s : St) (k t : Nat) : (s.kill k).get t = cond (V.has k (s.get t)) .undef (s.get t) := by
  obtain ⟨n, env, own⟩ := s
  simp only [St.get, St.kill]
  induction env with
  | nil => simp [killE, look, V.has]
  | cons x r ih =>
    obtain ⟨i, v⟩ := x
    simp only [killE, look]
    cases Nat.beq i t <;> simp [ih]

theorem RowAt.later {w w' : World} {c : Nat → Option (Nat × Nat × Nat)} {j : Nat} {e : TypeId} {l : List Int} {u : Value} (h : RowAt T w c j e l u) (hc : ∀ i b q, c i = some (b, q) → w'.heap[b]? = w.heap[b]?) : RowAt T w' c j e l u := by
  obtain ⟨a, n, cap, h1, h2, h3, h4, h5⟩ := h
  refine ⟨a, n, cap, h1, h2, h3, h4, h5.imp id ?_⟩
  rintro ⟨b, o, lim, arr, g1, g2, g3, g4, g5, g6⟩
  exact ⟨b, o, lim, arr, g1, g2, g3, (hc j b _ g1).trans g4, g5, g6⟩

theorem OCO.later {w w' : World} {Fr Fr' : Nat → Prop} {c : Nat → Option (Nat × Nat × Nat)} {j : Nat} {oc : OC} {u : Value} (h : OCO T w Fr c j oc u) (hl : Later w Fr w' Fr') (hc : ∀ i b q, c i = some (b, q) → w'.heap[b]? = w.heap[b]?) : OCO T w' Fr' c j oc u := by
  cases oc with
  | m t es =>
    obtain ⟨b, q, h1, h2, h3⟩ := h
    exact ⟨b, q, h1, h2, h3.of_heap (hc j b q h1)⟩
  | sl e l => exact SV.later h hl
  | _ => exact h

theorem ArrOK.later {w w' : World} {Fr Fr' : Nat → Prop} {e : TypeId} {d : D} {arr : Array Value} {base : Nat} {c : Nat → Option (Nat × Nat × Nat)} (h : ArrOK P T w Fr e d arr base c) (hl : Later w Fr w' Fr') (hc : ∀ i b q, c i = some (b, q) → w'.heap[b]? = w.heap[b]?) : ArrOK P T w' Fr' e d arr base c := by
  cases d with
  | ints l => exact h
  | rows xss =>
    obtain ⟨h1, h2, e', h3, h4⟩ := h
    exact ⟨h1, h2, e', h3, fun j hj => let ⟨u, hu, hs⟩ := h4 j hj; ⟨u, hu, hs.later hl⟩⟩
  | vals vs => exact fun j v hv => let ⟨u, hu, hb⟩ := h j v hv; ⟨u, hu, hb.later hl⟩
  | orows e' xss =>
    obtain ⟨h1, h2, h3⟩ := h
    exact ⟨h1, fun j hj => let ⟨u, hu, hs⟩ := h2 j hj; ⟨u, hu, hs.later hc⟩, h3⟩
  | obj cs =>
    obtain ⟨h1, h2⟩ := h
    exact ⟨fun j oc hj => let ⟨u, hu, ho, hs⟩ := h1 j oc hj; ⟨u, hu, ho, hs.later hl hc⟩, h2⟩
  | _ => exact h.elim

theorem OB.later {w w' : World} {Fr Fr' : Nat → Prop} {bk : Blk} {loc : Loc} (h : OB P T w Fr bk loc) (hl : Later w Fr w' Fr') (hh : ∀ b, loc.owns b → w'.heap[b]? = w.heap[b]?) : OB P T w' Fr' bk loc := by
  cases loc with
  | none => exact h
  | some x =>
    obtain ⟨b, base, lim⟩ := x
    have hm := hh b (owns_main rfl)
    have hc : ∀ i b' q, lim.c i = some (b', q) → w'.heap[b']? = w.heap[b']? := fun i b' q hq => hh b' (owns_kid rfl hq)
    obtain ⟨e, r, d⟩ := bk
    cases d with
    | mapI es => exact MapI.of_heap h hm
    | mapS es => exact MapS.of_heap h hm
    | _ =>
      obtain ⟨arr, h1, h2, h3⟩ := h
      exact ⟨arr, hm.trans h1, h2, h3.later hl hc⟩

section
variable {w0 w w' : World} {M : Mo} {ρ : Nat → Loc} {N : Nat → Loc × Blk} {s : St} {a : Act}

theorem RelAt.put (h : RelAt P T w0 M N ρ s a w) {d : Nat} {v : V} {u : Value} (hd : d < s.n) (hv : LV P T w (FrOf M.a s.blk ρ w) s.blk ρ v u) : RelAt P T w0 M N ρ (s.put d v) (a.put (some d) u) w := by
  refine ⟨h.os, h.tape, h.output, h.size, h.old, h.defers, (by simp only [Act.put, Array.size_setIfInBounds]; exact h.tn), h.acc, h.own, h.one, h.ob, fun t => ?_, h.pin⟩
  by_cases e : d = t
  · subst e
    rw [get_put_self]
    have hlt : d < a.tmps.size := by rw [h.tn]; exact hd
    have : (a.put (some d) u).tmps.getD d undef = u := by simp [Act.put, hlt]
    rw [this]
    exact hv
  · rw [get_put_ne _ _ e]
    have : (a.put (some d) u).tmps.getD t undef = a.tmps.getD t undef := by simp [Act.put, Array.getElem?_setIfInBounds_ne e]
    rw [this]
    exact h.lv t

/-- A value in the evaluator's hand may be forgotten or replaced by one that says the same. -/
theorem RelAt.same (h : RelAt P T w0 M N ρ s a w) {d : Nat} {v : V} (hv : LV P T w (FrOf M.a s.blk ρ w) s.blk ρ v (a.tmps.getD d undef)) : RelAt P T w0 M N ρ (s.put d v) a w := by
  refine ⟨h.os, h.tape, h.output, h.size, h.old, h.defers, h.tn, h.acc, h.own, h.one, h.ob, fun t => ?_, h.pin⟩
  by_cases e : d = t
  · subst e; rw [get_put_self]; exact hv
  · rw [get_put_ne _ _ e]; exact h.lv t

theorem RelAt.kill (h : RelAt P T w0 M N ρ s a w) (k : Nat) : RelAt P T w0 M N ρ (s.kill k) a w := by
  refine ⟨h.os, h.tape, h.output, h.size, h.old, h.defers, h.tn, h.acc, h.own, h.one, h.ob, fun t => ?_, h.pin⟩
  rw [get_kill]
  cases V.has k (s.get t) with
  | true => exact .bv _ _ (.undef _)
  | false => exact h.lv t

theorem has_undef (k : Nat) : V.has k .undef = false := rfl
theorem noRef_kill (s : St) (k t : Nat) : V.has k ((s.kill k).get t) = false := by
  rw [get_kill]
  cases hh : V.has k (s.get t) with
  | true => rfl
  | false => simpa using hh

theorem get_killD (s : St) (k t : Nat) : (s.killD k).get t = cond (V.deep k (s.get t)) .undef (s.get t) := by
  obtain ⟨n, env, own⟩ := s
  simp only [St.get, St.killD]
  induction env with
  | nil => simp [killDE, look, V.deep]
  | cons x r ih =>
    obtain ⟨i, v⟩ := x
    simp only [killDE, look]
    cases Nat.beq i t <;> simp [ih]

theorem noDeep_killD (s : St) (k t : Nat) : V.deep k ((s.killD k).get t) = false := by
  rw [get_killD]
  cases hh : V.deep k (s.get t) with
  | true => rfl
  | false => simpa using hh

theorem RelAt.killD (h : RelAt P T w0 M N ρ s a w) (k : Nat) : RelAt P T w0 M N ρ (s.killD k) a w := by
  refine ⟨h.os, h.tape, h.output, h.size, h.old, h.defers, h.tn, h.acc, h.own, h.one, h.ob, fun t => ?_, h.pin⟩
  rw [get_killD]
  cases V.deep k (s.get t) with
  | true => exact .bv _ _ (.undef _)
  | false => exact h.lv t

/-- The general step: the blocks of C are given other contents, or other places, or are let go. -/
theorem RelAt.turn (h : RelAt P T w0 M N ρ s a w) {s' : St} {ρ' : Nat → Loc} (C : Nat → Prop) (hn : s'.n = s.n)
    (hos : w'.os = w.os) (htape : w'.tape = w.tape) (hout : w'.output = w.output) (hsz : w.heap.size ≤ w'.heap.size)
    (hget : ∀ t, s'.get t = s.get t ∨ s'.get t = .undef)
    (hsame : ∀ k, ¬ C k → s'.blk k = s.blk k ∧ ρ' k = ρ k)
    (hheap : ∀ b, b < w.heap.size → (∀ k bk, C k → s.blk k = some bk → ¬ (ρ k).owns b) → w'.heap[b]? = w.heap[b]?)
    (hown : ∀ k bk' b, C k → s'.blk k = some bk' → (ρ' k).owns b → b < w'.heap.size ∧ ((∃ j bj, C j ∧ s.blk j = some bj ∧ (ρ j).owns b) ∨ w.heap.size ≤ b))
    (hone : ∀ k k' bk bk' b, C k → C k' → s'.blk k = some bk → s'.blk k' = some bk' → (ρ' k).owns b → (ρ' k').owns b → k = k')
    (hob : Later w (FrOf M.a s.blk ρ w) w' (FrOf M.a s'.blk ρ' w') → ∀ k bk', C k → s'.blk k = some bk' → OB P T w' (FrOf M.a s'.blk ρ' w') bk' (ρ' k))
    (href : ∀ t k bk, C k → V.has k (s'.get t) = true → s.blk k = some bk → ∃ bk', s'.blk k = some bk' ∧ Keeps (s'.get t) k bk bk' (ρ k) (ρ' k))
    (hpin : ∀ k, C k → s.n ≤ k → ρ' k = ρ k ∧ ∀ bk', s'.blk k = some bk' → ∃ bk, s.blk k = some bk ∧ bk.alike bk') : RelAt P T w0 M N ρ' s' a w' := by
  have hlater : Later w (FrOf M.a s.blk ρ w) w' (FrOf M.a s'.blk ρ' w') := by
    intro b hb
    refine ⟨⟨Nat.lt_of_lt_of_le hb.lt hsz, fun k bk' hk ho => ?_, hb.ac⟩, hheap b hb.lt fun k bk _ hk ho => hb.no k bk hk ho⟩
    by_cases hC : C k
    · rcases (hown k bk' b hC hk ho).2 with ⟨j, bj, _, g2, g3⟩ | g
      · exact hb.no j bj g2 g3
      · have := hb.lt; omega
    · obtain ⟨e1, e2⟩ := hsame k hC
      exact hb.no k bk' (e1 ▸ hk) (e2 ▸ ho)
  refine ⟨hos.trans h.os, htape.trans h.tape, hout.trans h.output, Nat.le_trans h.size hsz, ?_, h.defers, h.tn.trans hn.symm, h.acc, ?_, ?_, ?_, ?_, ?_⟩
  · intro b hb hm
    rw [hheap b (Nat.lt_of_lt_of_le hb h.size) fun k bk _ hk ho => ?_]
    · exact h.old b hb hm
    · rcases (h.own k bk b hk ho).2 with q | q
      · omega
      · exact hm q
  · intro k bk b hk ho
    by_cases hC : C k
    · obtain ⟨g1, g2⟩ := hown k bk b hC hk ho
      refine ⟨g1, ?_⟩
      rcases g2 with ⟨j, bj, _, q2, q3⟩ | q
      · exact (h.own j bj b q2 q3).2
      · exact .inl (Nat.le_trans h.size q)
    · obtain ⟨e1, e2⟩ := hsame k hC
      obtain ⟨g1, g2⟩ := h.own k bk b (e1 ▸ hk) (e2 ▸ ho)
      exact ⟨Nat.lt_of_lt_of_le g1 hsz, g2⟩
  · have key : ∀ k k' bk bk' b, C k → ¬ C k' → s'.blk k = some bk → s.blk k' = some bk' → (ρ' k).owns b → (ρ k').owns b → False := by
      intro k k' bk bk' b hC hC' hk hk' ho ho'
      rcases (hown k bk b hC hk ho).2 with ⟨j, bj, q1, q2, q3⟩ | q
      · have := h.one j k' bj bk' b q2 hk' q3 ho'
        subst this
        exact hC' q1
      · have := (h.own k' bk' b hk' ho').1
        omega
    intro k k' bk bk' b hk hk' ho ho'
    by_cases hC : C k <;> by_cases hC' : C k'
    · exact hone k k' bk bk' b hC hC' hk hk' ho ho'
    · obtain ⟨e1, e2⟩ := hsame k' hC'
      exact (key k k' bk bk' b hC hC' hk (e1 ▸ hk') ho (e2 ▸ ho')).elim
    · obtain ⟨e1, e2⟩ := hsame k hC
      exact (key k' k bk' bk b hC' hC hk' (e1 ▸ hk) ho' (e2 ▸ ho)).elim
    · obtain ⟨e1, e2⟩ := hsame k hC
      obtain ⟨e3, e4⟩ := hsame k' hC'
      exact h.one k k' bk bk' b (e1 ▸ hk) (e3 ▸ hk') (e2 ▸ ho) (e4 ▸ ho')
  · intro k bk hk
    by_cases hC : C k
    · exact hob hlater k bk hC hk
    · obtain ⟨e1, e2⟩ := hsame k hC
      rw [e1] at hk
      rw [e2]
      refine (h.ob k bk hk).later hlater fun b ho => hheap b (h.own k bk b hk ho).1 fun j bj hj q1 q2 => ?_
      have := h.one j k bj bk b q1 hk q2 ho
      subst this
      exact hC hj
  · intro t
    rcases hget t with e | e
    · rw [e]
      refine (h.lv t).moveW hlater ?_
      intro k bk hh hk
      by_cases hC : C k
      · have := href t k bk hC (e.symm ▸ hh) hk
        rw [e] at this
        exact this
      · obtain ⟨e1, e2⟩ := hsame k hC
        exact ⟨bk, e1.trans hk, .of e2 (Blk.alike_rfl bk)⟩
    · rw [e]; exact .bv _ _ (.undef _)
  · intro k hk
    rw [hn] at hk
    obtain ⟨p1, p2⟩ := h.pin k hk
    by_cases hC : C k
    · obtain ⟨e1, e2⟩ := hpin k hC hk
      refine ⟨e1.trans p1, fun bk hbk => ?_⟩
      obtain ⟨bk0, q1, q2⟩ := e2 bk hbk
      exact alike_trans (p2 bk0 q1) q2
    · obtain ⟨e1, e2⟩ := hsame k hC
      exact ⟨e2.trans p1, fun bk hbk => p2 bk (e1 ▸ hbk)⟩

/-- The step at a block k that is owned already: it is given other contents, or another place. -/
theorem RelAt.change (h : RelAt P T w0 M N ρ s a w) {k : Nat} {bk bk' : Blk} {loc' : Loc} (hk : s.blk k = some bk)
    (hos : w'.os = w.os) (htape : w'.tape = w.tape) (hout : w'.output = w.output) (hsz : w.heap.size ≤ w'.heap.size)
    (hheap : ∀ b, b < w.heap.size → ¬ (ρ k).owns b → w'.heap[b]? = w.heap[b]?)
    (hloc : ∀ b, loc'.owns b → b < w'.heap.size ∧ ((ρ k).owns b ∨ w.heap.size ≤ b))
    (hob : Later w (FrOf M.a s.blk ρ w) w' (FrOf M.a (s.setB k bk').blk (upd ρ k loc') w') → OB P T w' (FrOf M.a (s.setB k bk').blk (upd ρ k loc') w') bk' loc')
    (href : ((∀ t, V.has k (s.get t) = false) ∧ k < s.n) ∨ (bk.alike bk' ∧ loc' = ρ k)) :
    RelAt P T w0 M N (upd ρ k loc') (s.setB k bk') a w' := by
  refine h.turn (fun j => j = k) rfl hos htape hout hsz (fun t => .inl rfl) (fun j hj => ⟨blk_setB_ne _ _ (fun e => hj e.symm), upd_ne _ _ hj⟩)
    (fun b hb hno => hheap b hb (hno k bk rfl hk)) ?_ (fun i j _ _ _ hi hj _ _ _ _ => hi.trans hj.symm) ?_ ?_ ?_
  · rintro j bj b rfl hj ho
    rw [upd_self] at ho
    obtain ⟨g1, g2⟩ := hloc b ho
    exact ⟨g1, g2.imp (fun q => ⟨j, bk, rfl, hk, q⟩) id⟩
  · rintro hl j bj rfl hj
    rw [blk_setB_self] at hj
    injection hj with hj
    subst hj
    rw [upd_self]
    exact hob hl
  · rintro t j bj rfl hh hj
    rw [hk] at hj
    injection hj with hj
    subst hj
    rcases href with ⟨hr, _⟩ | ⟨hr1, hr2⟩
    · have := hr t
      rw [show (s.setB j bk').get t = s.get t from rfl] at hh
      rw [this] at hh
      cases hh
    · exact ⟨bk', blk_setB_self _ _ _, .of (by rw [upd_self, hr2]) hr1⟩
  · rintro j rfl hj
    rcases href with ⟨_, hlt⟩ | ⟨hr1, hr2⟩
    · omega
    · refine ⟨by rw [upd_self, hr2], fun bk2 hbk => ⟨bk, hk, ?_⟩⟩
      rw [blk_setB_self] at hbk
      injection hbk with hbk
      subst hbk
      exact hr1

/-- A new block, made since world w. -/
theorem RelAt.adopt (h : RelAt P T w0 M N ρ s a w) {d : Nat} {bk : Blk} {loc' : Loc} (hd : s.blk d = none) (hdn : d < s.n) (hB : Below w.heap.size w w')
    (hloc : ∀ b, loc'.owns b → b < w'.heap.size ∧ w.heap.size ≤ b)
    (hob : Later w (FrOf M.a s.blk ρ w) w' (FrOf M.a (s.setB d bk).blk (upd ρ d loc') w') → OB P T w' (FrOf M.a (s.setB d bk).blk (upd ρ d loc') w') bk loc') :
    RelAt P T w0 M N (upd ρ d loc') (s.setB d bk) a w' := by
  refine h.turn (fun j => j = d) rfl hB.os hB.tape hB.output hB.size (fun t => .inl rfl) (fun j hj => ⟨blk_setB_ne _ _ (fun e => hj e.symm), upd_ne _ _ hj⟩)
    (fun b hb _ => hB.block b hb) ?_ (fun i j _ _ _ hi hj _ _ _ _ => hi.trans hj.symm) ?_ ?_ ?_
  · rintro j bj b rfl hj ho
    rw [upd_self] at ho
    obtain ⟨g1, g2⟩ := hloc b ho
    exact ⟨g1, .inr g2⟩
  · rintro hl j bj rfl hj
    rw [blk_setB_self] at hj
    injection hj with hj
    subst hj
    rw [upd_self]
    exact hob hl
  · rintro t j bj rfl hh hj
    rw [hd] at hj
    cases hj
  · rintro j rfl hj
    omega

/-- A block that nobody leads to is let go. -/
theorem RelAt.dropB (h : RelAt P T w0 M N ρ s a w) {k : Nat} (hr : ∀ t, V.has k (s.get t) = false) : RelAt P T w0 M N ρ (s.drop k) a w := by
  refine h.turn (fun j => j = k) rfl rfl rfl rfl (Nat.le_refl _) (fun t => .inl rfl) (fun j hj => ⟨blk_drop_ne _ (fun e => hj e.symm), rfl⟩)
    (fun b hb _ => rfl) ?_ (fun i j _ _ _ hi hj _ _ _ _ => hi.trans hj.symm) ?_ ?_ ?_
  · rintro j bj b rfl hj ho
    rw [blk_drop_self] at hj
    cases hj
  · rintro hl j bj rfl hj
    rw [blk_drop_self] at hj
    cases hj
  · rintro t j bj rfl hh hj
    have := hr t
    rw [show (s.drop j).get t = s.get t from rfl] at hh
    rw [this] at hh
    cases hh
  · rintro j rfl hj
    refine ⟨rfl, fun bk' hbk => ?_⟩
    rw [blk_drop_self] at hbk
    cases hbk

/-- The world has grown; nothing that was there has turned. -/
theorem RelAt.below (h : RelAt P T w0 M N ρ s a w) (hB : Below w.heap.size w w') : RelAt P T w0 M N ρ s a w' :=
  h.turn (fun _ => False) rfl hB.os hB.tape hB.output hB.size (fun t => .inl rfl) (fun j _ => ⟨rfl, rfl⟩) (fun b hb _ => hB.block b hb) (fun _ _ _ hf => hf.elim) (fun _ _ _ _ _ hf => hf.elim) (fun _ _ _ hf => hf.elim) (fun _ _ _ hf => hf.elim) (fun _ hf => hf.elim)

theorem RelAt.ext (h : RelAt P T w0 M N ρ s a w) {s' : St} (h1 : s'.n = s.n) (h2 : ∀ t, s'.get t = s.get t) (h3 : ∀ k, s'.blk k = s.blk k) : RelAt P T w0 M N ρ s' a w :=
  h.turn (fun _ => False) h1 rfl rfl rfl (Nat.le_refl _) (fun t => .inl (h2 t)) (fun j _ => ⟨h3 j, rfl⟩) (fun b hb _ => rfl) (fun _ _ _ hf => hf.elim) (fun _ _ _ _ _ hf => hf.elim) (fun _ _ _ hf => hf.elim) (fun _ _ _ hf => hf.elim) (fun _ hf => hf.elim)

end

def Rel (P : Program) (T : Tab) (w0 : World) (M : Mo) (N : Nat → Loc × Blk) (s : St) (a : Act) (w : World) : Prop := ∃ ρ, RelAt P T w0 M N ρ s a w

end Go.Ev
end

section
/- The operations that call nothing: what the evaluator gives, the kit's model gives. -/
namespace Go.Ev
open Go.RowKit (Below)

variable {P : Program} {T : Tab} {w0 w : World} {M : Mo} {ρ : Nat → Loc} {N : Nat → Loc × Blk} {s : St} {a : Act} {Fr : Nat → Prop} {blk : Nat → Option Blk}

/-! ## What a value in the evaluator's hand says -/

theorem LV.int_inv {k : IntKind} {n : Int} {u : Value} (h : LV P T w Fr blk ρ (.int k n) u) : u = .int k n := by
  cases h with
  | bv _ _ h => cases h with
    | flat _ _ h => exact h
theorem LV.bool_inv {b : Bool} {u : Value} (h : LV P T w Fr blk ρ (.bool b) u) : u = .bool b := by
  cases h with
  | bv _ _ h => cases h with
    | flat _ _ h => exact h
theorem LV.str_inv {b : ByteArray} {u : Value} (h : LV P T w Fr blk ρ (.str b) u) : u = .string b := by
  cases h with
  | bv _ _ h => cases h with
    | flat _ _ h => exact h
theorem LV.agg_inv {t : TypeId} {l : List Int} {u : Value} (h : LV P T w Fr blk ρ (.agg t l) u) : FV T (.agg t l) u := by
  cases h with
  | bv _ _ h => cases h with
    | flat _ _ h => exact h
theorem LV.skip_inv {u : Value} (h : LV P T w Fr blk ρ .skip u) : u = undef := by
  cases h with
  | bv _ _ h => cases h with
    | flat _ _ h => exact h.elim
    | skip => rfl
theorem LV.nil_inv {u : Value} (h : LV P T w Fr blk ρ .nil u) : u = .slice none 0 0 := by
  cases h with
  | bv _ _ h => cases h with
    | flat _ _ h => exact h.elim
    | nil => rfl
theorem LV.ptr_inv {k off : Nat} {t : TypeId} {u : Value} (h : LV P T w Fr blk ρ (.ptr k off t) u) :
    ∃ bk b base, ∃ lim : Lim, blk k = some bk ∧ ρ k = some (b, base, lim) ∧ TyAt T bk off t ∧ u = .pointer (some ⟨b, base + off, none⟩) := by
  cases h with
  | bv _ _ h => cases h with
    | flat _ _ h => exact h.elim
  | ptr k off t bk b base lim h1 h2 h3 => exact ⟨bk, b, base, lim, h1, h2, h3, rfl⟩
theorem LV.pvi_inv {t0 : Option TypeId} {l : List Int} {off : Nat} {t : TypeId} {u : Value} (h : LV P T w Fr blk ρ (.pvi t0 l off t) u) :
    ∃ b o, Fr b ∧ isFlatTy T t = true ∧ off + (T.at t).size ≤ l.length ∧ CellsAt w b o (T.at t).ks l off (T.at t).size ∧ (t0 = some t → off = 0 → l.length = (T.at t).size) ∧ u = .pointer (some ⟨b, o, none⟩) := by
  cases h with
  | bv _ _ h => cases h with
    | flat _ _ h => exact h.elim
    | pvi t0 l off t b o h1 h2 h3 h4 h5 => exact ⟨b, o, h1, h2, h3, h4, h5, rfl⟩
theorem LV.pvv_inv {vs : List V} {off : Nat} {t : TypeId} {u : Value} (h : LV P T w Fr blk ρ (.pvv vs off t) u) :
    ∃ (b o : Nat) (us : Nat → Value), Fr b ∧ (∀ j v, vs[off + j]? = some v → w.cell? ⟨b, o + j, none⟩ = some (us j)) ∧ (∀ j v, vs[off + j]? = some v → BV P T w Fr v (us j)) ∧ u = .pointer (some ⟨b, o, none⟩) := by
  cases h with
  | bv _ _ h => cases h with
    | flat _ _ h => exact h.elim
    | pvv vs off t b o us h1 h2 h3 => exact ⟨b, o, us, h1, h2, h3, rfl⟩
theorem LV.pvr_inv {e : TypeId} {xss : List (List Int)} {i : Nat} {u : Value} (h : LV P T w Fr blk ρ (.pvr e xss i) u) :
    ∃ (e' : TypeId) (b o : Nat) (x : Value), (T.at e).d = .slice e' ∧ Fr b ∧ w.cell? ⟨b, o, none⟩ = some x ∧ SV T w Fr e' (rdr xss i) x ∧ u = .pointer (some ⟨b, o, none⟩) := by
  cases h with
  | bv _ _ h => cases h with
    | flat _ _ h => exact h.elim
    | pvr e e' xss i b o u h1 h2 h3 h4 => exact ⟨e', b, o, u, h1, h2, h3, h4, rfl⟩
theorem LV.slv_inv {e : TypeId} {l : List Int} {u : Value} (h : LV P T w Fr blk ρ (.slv e l) u) : SV T w Fr e l u := by
  cases h with
  | bv _ _ h => cases h with
    | flat _ _ h => exact h.elim
    | slv e l u h => exact h
theorem LV.slr_inv {e : TypeId} {xss : List (List Int)} {u : Value} (h : LV P T w Fr blk ρ (.slr e xss) u) : BV P T w Fr (.slr e xss) u := by
  cases h with
  | bv _ _ h => exact h
theorem LV.cloB_inv {e : TypeId} {g : List Int → Option Bool} {u : Value} (h : LV P T w Fr blk ρ (.cloB e g) u) : CloB P T w Fr e g u := by
  cases h with
  | bv _ _ h => cases h with
    | flat _ _ h => exact h.elim
    | cloB e l u h => exact h
theorem LV.cloL_inv {e e' : TypeId} {g : List Int → Option (List Int)} {u : Value} (h : LV P T w Fr blk ρ (.cloL e e' g) u) : CloL P T w Fr e e' g u := by
  cases h with
  | bv _ _ h => cases h with
    | flat _ _ h => exact h.elim
    | cloL e e' l u h => exact h
theorem LV.tup_inv {vs : List V} {u : Value} (h : LV P T w Fr blk ρ (.tup vs) u) : ∃ arr : Array Value, u = .tuple arr ∧ arr.size = vs.length ∧ ∀ i v, vs[i]? = some v → LV P T w Fr blk ρ v (arr.getD i undef) := by
  cases h with
  | bv _ _ h => cases h with
    | flat _ _ h => exact h.elim
  | tup vs arr h1 h2 => exact ⟨arr, rfl, h1, h2⟩

theorem LV.pvo_inv {cs : List OC} {off : Nat} {t : TypeId} {u : Value} (h : LV P T w Fr blk ρ (.pvo cs off t) u) :
    ∃ b o, Fr b ∧ (∀ (j : Nat) (oc : OC), cs[off + j]? = some oc → ∃ u, w.cell? ⟨b, o + j, none⟩ = some u ∧ u.oneCell' = true ∧ OCB T w Fr oc u) ∧ u = .pointer (some ⟨b, o, none⟩) := by
  cases h with
  | bv _ _ h => cases h with
    | flat _ _ h => exact h.elim
    | pvo cs off t b o h1 h2 => exact ⟨b, o, h1, h2, rfl⟩
theorem LV.mapv_inv {t : TypeId} {es : List (List Int × Int)} {u : Value} (h : LV P T w Fr blk ρ (.mapv t es) u) : ∃ b, Fr b ∧ MapI T w b t es ∧ u = .map (some b) := by
  cases h with
  | bv _ _ h => cases h with
    | flat _ _ h => exact h.elim
    | mapv t es b h1 h2 => exact ⟨b, h1, h2, rfl⟩
theorem LV.reco_inv {t : TypeId} {cs : List OC} {u : Value} (h : LV P T w Fr blk ρ (.reco t cs) u) : ∃ arr : Array Value, u = .agg arr ∧ (T.at t).d.isAgg = true ∧ cs.length = (T.at t).size ∧ arr.size = cs.length ∧
    ∀ (j : Nat) (oc : OC), cs[j]? = some oc → ∃ u, arr[j]? = some u ∧ u.oneCell' = true ∧ OCB T w Fr oc u ∧ noMap oc = true := by
  cases h with
  | bv _ _ h => cases h with
    | flat _ _ h => exact h.elim
    | reco t cs arr h0 h1 h2 h3 => exact ⟨arr, rfl, h0, h1, h2, h3⟩
theorem LV.mapk_inv {k : Nat} {t : TypeId} {u : Value} (h : LV P T w Fr blk ρ (.mapk k t) u) : ∃ bk b base lim, blk k = some bk ∧ bk.e = t ∧ bk.d.isMap = true ∧ ρ k = some (b, base, lim) ∧ u = .map (some b) := by
  cases h with
  | bv _ _ h => cases h with
    | flat _ _ h => exact h.elim
  | mapk k t bk b base lim h1 h2 h3 h4 => exact ⟨bk, b, base, lim, h1, h2, h3, h4, rfl⟩
theorem LV.mapc_inv {k i : Nat} {t : TypeId} {u : Value} (h : LV P T w Fr blk ρ (.mapc k i t) u) : ∃ bk cs es b0 base b lim q, blk k = some bk ∧ bk.d = .obj cs ∧ cs[i]? = some (.m t es) ∧ ρ k = some (b0, base, lim) ∧ lim.c i = some (b, q) ∧ u = .map (some b) := by
  cases h with
  | bv _ _ h => cases h with
    | flat _ _ h => exact h.elim
  | mapc k i t bk cs es b0 base b lim q h1 h2 h3 h4 h5 => exact ⟨bk, cs, es, b0, base, b, lim, q, h1, h2, h3, h4, h5, rfl⟩
theorem LV.row_inv {k i : Nat} {e : TypeId} {u : Value} (h : LV P T w Fr blk ρ (.row k i e) u) : ∃ bk xss b0 base lim a n cap, blk k = some bk ∧ bk.d = .orows e xss ∧ i < xss.length ∧ (rdr xss i).length = n * (T.at e).size ∧ ρ k = some (b0, base, lim) ∧ n ≤ cap ∧ cap ≤ maxLen ∧
    ((n = 0 ∧ cap = 0 ∧ lim.c i = none) ∨ ∃ b o m, lim.c i = some (b, o, m) ∧ a = some ⟨b, o, none⟩ ∧ o + cap * (T.at e).size ≤ m) ∧ u = .slice a n cap := by
  cases h with
  | bv _ _ h => cases h with
    | flat _ _ h => exact h.elim
  | row k i e bk xss b0 base lim a n cap h1 h2 h3 h4 h5 h6 h7 h8 => exact ⟨bk, xss, b0, base, lim, a, n, cap, h1, h2, h3, h4, h5, h6, h7, h8, rfl⟩
theorem LV.ptrr_inv {k i off : Nat} {t : TypeId} {u : Value} (h : LV P T w Fr blk ρ (.ptrr k i off t) u) : ∃ e bk xss b0 base b o m lim, blk k = some bk ∧ bk.d = .orows e xss ∧ i < xss.length ∧ ρ k = some (b0, base, lim) ∧ lim.c i = some (b, o, m) ∧ isFlatTy T t = true ∧
    off + (T.at t).size ≤ (rdr xss i).length ∧ (∀ j, j < (T.at t).size → kindAt (T.at e).ks (off + j) = kindAt (T.at t).ks j) ∧ u = .pointer (some ⟨b, o + off, none⟩) := by
  cases h with
  | bv _ _ h => cases h with
    | flat _ _ h => exact h.elim
  | ptrr k i off t e bk xss b0 base b o m lim h1 h2 h3 h4 h5 h6 h7 h8 => exact ⟨e, bk, xss, b0, base, b, o, m, lim, h1, h2, h3, h4, h5, h6, h7, h8, rfl⟩

theorem LV.flatV {v : V} {u : Value} (h : FV T v u) : LV P T w Fr blk ρ v u := .bv _ _ (.flat _ _ h)
theorem LV.ofInt (k : IntKind) (n : Int) : LV P T w Fr blk ρ (.int k n) (.int k n) := .flatV rfl
theorem LV.ofBool (b : Bool) : LV P T w Fr blk ρ (.bool b) (.bool b) := .flatV rfl
theorem LV.ofStr (b : ByteArray) : LV P T w Fr blk ρ (.str b) (.string b) := .flatV rfl

theorem RelAt.ev (h : RelAt P T w0 M N ρ s a w) (x : Operand) : LV P T w (FrOf M.a s.blk ρ w) s.blk ρ (s.ev x) (a.eval x) := by
  cases x with
  | tmp t => exact h.lv t
  | const v =>
    show LV P T w _ _ ρ (ofConst v) v
    unfold ofConst
    split
    · exact .ofBool _
    · exact .ofInt _ _
    · exact .ofStr _
    · exact .bv _ _ .nil
    · exact .bv _ _ (.undef _)
  | global g => exact .bv _ _ (.undef _)
  | func f => exact .fn f [] [] #[] #[] rfl rfl (fun i v hv => by simp at hv) (fun i v hv => by simp at hv)

/-! ## Runs -/

theorem run_isAgg {t : TypeId} {d : TypeDesc} (h : P.underlying t = some d) (w : World) : (isAgg t).run P w = .ok (match d with | .struct _ | .array _ _ => true | _ => false) w := by
  unfold isAgg
  rw [Sem.run_bind, run_underlying h]
  cases d <;> rfl

theorem run_sizeOf {t : TypeId} {i : TypeInfo} (h : P.info? t = some i) (w : World) : (sizeOf t).run P w = .ok i.size w := by
  simp [sizeOf, typeInfo, h]

theorem run_zeroValue {t : TypeId} {i : TypeInfo} {z : Value} (h : P.info? t = some i) (hz : i.zero = some z) (w : World) : (zeroValue t).run P w = .ok z w := by
  simp [zeroValue, typeInfo, h, hz]

theorem TabOK.isAgg (hT : TabOK P T) {t : TypeId} (hd : (T.at t).d ≠ .other) (w : World) : (isAgg t).run P w = .ok (T.at t).d.isAgg w := by
  have h := (hT t).desc
  cases hh : (T.at t).d with
  | sc k => cases k <;> (rw [hh] at h; rw [run_isAgg h]; rfl)
  | str => rw [hh] at h; rw [run_isAgg h]; rfl
  | struct fs => rw [hh] at h; obtain ⟨F, h, _⟩ := h; rw [run_isAgg h]; rfl
  | arr n e => rw [hh] at h; rw [run_isAgg h]; rfl
  | slice e => rw [hh] at h; rw [run_isAgg h]; rfl
  | ptr e => rw [hh] at h; rw [run_isAgg h]; rfl
  | map k e => rw [hh] at h; rw [run_isAgg h]; rfl
  | fnB e => rw [hh] at h; obtain ⟨x, y, z, h⟩ := h; rw [run_isAgg h]; rfl
  | fnL e e' => rw [hh] at h; obtain ⟨x, y, z, h⟩ := h; rw [run_isAgg h]; rfl
  | other => exact absurd hh hd

theorem TabOK.info' (hT : TabOK P T) {t : TypeId} (hd : (T.at t).d ≠ .other) : ∃ ti z, P.info? t = some ti ∧ ti.size = (T.at t).size ∧ ti.bytes ≤ 1024 ∧ ti.zero = some z ∧ z.cells.size = (T.at t).size ∧ 0 < (T.at t).size ∧
    (isFlatTy T t = true → z.cells.toList = zipV (T.at t).ks (zeros (T.at t))) ∧ ((T.at t).d matches .str → z = .string .empty) ∧ (∀ e, (T.at t).d = .slice e → z = .slice none 0 0) := by
  rcases (hT t).info with h | h
  · exfalso; revert h; cases hh : (T.at t).d <;> simp_all
  · exact h

theorem TabOK.size (hT : TabOK P T) {t : TypeId} (hd : (T.at t).d ≠ .other) (w : World) : (sizeOf t).run P w = .ok (T.at t).size w := by
  obtain ⟨ti, z, h1, h2, _⟩ := hT.info' hd
  rw [run_sizeOf h1, h2]

theorem flat_ne (hT : TabOK P T) {t : TypeId} (h : isFlatTy T t = true) : (T.at t).d ≠ .other := by
  intro e
  have := ((hT t).flat h).2
  rw [e] at this
  exact this

theorem flat_len (hT : TabOK P T) {t : TypeId} (h : isFlatTy T t = true) : (T.at t).ks.length = (T.at t).size := ((hT t).flat h).1

theorem flat_pos (hT : TabOK P T) {t : TypeId} (h : isFlatTy T t = true) : 0 < (T.at t).size := by
  obtain ⟨ti, z, _, _, _, _, _, h0, _⟩ := hT.info' (flat_ne hT h)
  exact h0

/-- The cells of a value that fits a type, by value. -/
theorem fits_cells (hT : TabOK P T) {u : TypeId} {v : V} {x : Value} {m : List Int} (hf : fits T u v = true) (hfl : isFlatTy T u = true) (hv : FV T v x) (hm : v.flat = some m) :
    x.cells.toList = zipV (T.at u).ks m ∧ m.length = (T.at u).size ∧ (∀ y ∈ x.cells.toList, y.oneCell' = true) ∧ (match v with | .agg _ _ => (T.at u).d.isAgg = true | _ => (T.at u).d.isAgg = false) := by
  have hks := (hT u).flat hfl
  cases v with
  | int k n =>
    simp only [V.flat, Option.some.injEq] at hm
    subst hm
    simp only [FV] at hv
    subst hv
    simp only [fits] at hf
    split at hf
    · rename_i j hd
      rw [hd] at hks
      have hj : j = k := by cases j <;> cases k <;> simp_all [sameKind]
      subst hj
      have hs : (T.at u).size = 1 := by rw [← hks.1, hks.2]; rfl
      refine ⟨by rw [hks.2]; rfl, by rw [hs]; rfl, by simp [Value.cells, Value.oneCell'], by simp [hd, TyD.isAgg]⟩
    · cases hf
  | bool b =>
    simp only [V.flat, Option.some.injEq] at hm
    subst hm
    simp only [FV] at hv
    subst hv
    simp only [fits] at hf
    split at hf
    · rename_i hd
      rw [hd] at hks
      have hs : (T.at u).size = 1 := by rw [← hks.1, hks.2]; rfl
      refine ⟨by rw [hks.2]; cases b <;> rfl, by rw [hs]; rfl, by simp [Value.cells, Value.oneCell'], by simp [hd, TyD.isAgg]⟩
    · cases hf
  | agg t l =>
    simp only [V.flat, Option.some.injEq] at hm
    subst hm
    simp only [fits] at hf
    have ht := Nat.eq_of_beq_eq_true hf
    subst ht
    obtain ⟨h1, h2, h3, arr, rfl, h4⟩ := hv
    refine ⟨h4, h3, ?_, h1⟩
    intro y hy
    simp only [Value.cells] at hy
    rw [h4] at hy
    have key : ∀ (ks : List SK) (l : List Int), ∀ y ∈ zipV ks l, y.oneCell' = true := by
      intro ks
      induction ks with
      | nil => intro l y hy; cases l <;> simp [zipV] at hy
      | cons k ks ih =>
        intro l y hy
        cases l with
        | nil => simp [zipV] at hy
        | cons n l =>
          simp only [zipV, List.mem_cons] at hy
          rcases hy with rfl | hy
          · cases k <;> rfl
          · exact ih l y hy
    exact key _ _ y hy
  | _ => simp [V.flat] at hm

theorem flat_FV {v : V} {u : Value} {m : List Int} (h : LV P T w Fr blk ρ v u) (hm : v.flat = some m) : FV T v u := by
  cases v with
  | int k n => exact h.int_inv
  | bool b => exact h.bool_inv
  | agg t l => exact h.agg_inv
  | _ => simp [V.flat] at hm

end Go.Ev
end

section
/- Loads, addresses, parts of values. -/
namespace Go.Ev
open Go.RowKit (Below)

variable {P : Program} {T : Tab} {w0 w : World} {M : Mo} {ρ : Nat → Loc} {N : Nat → Loc × Blk} {s : St} {a : Act} {Fr : Nat → Prop} {blk : Nat → Option Blk}

/-! ## Parts of a payload -/

theorem rds_length (l : List Int) (off : Nat) : ∀ (n j : Nat), (rds l off j n).length = n := by
  intro n
  induction n with
  | zero => intro j; rfl
  | succ n ih => intro j; simp [rds, ih]

theorem rd_rds (l : List Int) (off : Nat) : ∀ (n j i : Nat), i < n → rd (rds l off j n) i = rd l (off + (j + i)) := by
  intro n
  induction n with
  | zero => intro j i h; omega
  | succ n ih =>
    intro j i h
    cases i with
    | zero => rfl
    | succ i =>
      rw [rds, rd_cons_succ, ih (j + 1) i (by omega)]
      congr 1
      omega

theorem win_length (l : List Int) (off n : Nat) (h : off + n ≤ l.length) : (win l off n).length = n := by
  simp [win]; omega

theorem rd_win (l : List Int) (off n i : Nat) (h : i < n) : rd (win l off n) i = rd l (off + i) := by
  simp only [rd, win, List.getD_eq_getElem?_getD]
  rw [List.getElem?_take, if_pos h, List.getElem?_drop]

def payI (ti : TyI) (t : TypeId) (t0 : Option TypeId) (l : List Int) (off : Nat) : List Int :=
  cond (Nat.ble ti.size 8) (rds l off 0 ti.size) (cond (rootEq t0 t off) l (win l off ti.size))

theorem rootEq_true {t0 : Option TypeId} {t : TypeId} {off : Nat} (h : rootEq t0 t off = true) : t0 = some t ∧ off = 0 := by
  cases t0 with
  | none => simp [rootEq] at h
  | some u =>
    simp only [rootEq, Bool.and_eq_true] at h
    exact ⟨by rw [Nat.eq_of_beq_eq_true h.1], Nat.eq_of_beq_eq_true h.2⟩

theorem payI_spec {ti : TyI} {t : TypeId} {t0 : Option TypeId} {l : List Int} {off : Nat} (hl : off + ti.size ≤ l.length) (hr : t0 = some t → off = 0 → l.length = ti.size) :
    (payI ti t t0 l off).length = ti.size ∧ ∀ i, i < ti.size → rd (payI ti t t0 l off) i = rd l (off + i) := by
  unfold payI
  cases h1 : Nat.ble ti.size 8 with
  | true => exact ⟨rds_length _ _ _ _, fun i hi => by rw [cond_true, rd_rds _ _ _ _ _ hi]; congr 1; omega⟩
  | false =>
    cases h2 : rootEq t0 t off with
    | true =>
      obtain ⟨e1, e2⟩ := rootEq_true h2
      exact ⟨hr e1 e2, fun i hi => by rw [cond_false, cond_true, e2, Nat.zero_add]⟩
    | false => exact ⟨win_length _ _ _ hl, fun i hi => rd_win _ _ _ _ hi⟩

theorem mk_FV (sk : SK) (n : Int) : FV T (sk.mk n) (sk.val n) := by cases sk <;> rfl

/-- A part of an aggregate, or a load: the value that the payload gives. -/
theorem loadI_FV (hT : TabOK P T) {t : TypeId} {t0 : Option TypeId} {l : List Int} {off : Nat} (hfl : isFlatTy T t = true) (hl : off + (T.at t).size ≤ l.length) (hr : t0 = some t → off = 0 → l.length = (T.at t).size) :
    ((T.at t).d.isAgg = false → ∃ sk, (T.at t).ks = [sk] ∧ (T.at t).d = .sc sk ∧ FV T (loadI (T.at t) t t0 l off) (sk.val (rd l off))) ∧
    ((T.at t).d.isAgg = true → ∀ arr : Array Value, arr.size = (T.at t).size → (∀ j, j < (T.at t).size → arr[j]? = some ((kindAt (T.at t).ks j).val (rd l (off + j)))) → FV T (loadI (T.at t) t t0 l off) (.agg arr)) := by
  have hks := (hT t).flat hfl
  constructor
  · intro ha
    cases hd : (T.at t).d with
    | sc sk =>
      rw [hd] at hks
      refine ⟨sk, hks.2, rfl, ?_⟩
      unfold loadI
      rw [hd]
      exact mk_FV _ _
    | struct fs => rw [hd] at ha; cases ha
    | arr n e => rw [hd] at ha; cases ha
    | _ => rw [hd] at hks; exact hks.2.elim
  · intro ha arr hsz harr
    obtain ⟨p1, p2⟩ := payI_spec (ti := T.at t) (t := t) (t0 := t0) hl hr
    have hload : loadI (T.at t) t t0 l off = .agg t (payI (T.at t) t t0 l off) := by
      unfold loadI payI
      cases hd : (T.at t).d with
      | sc sk => rw [hd] at ha; cases ha
      | _ => rfl
    rw [hload]
    refine ⟨ha, hfl, p1, arr, rfl, ?_⟩
    apply List.ext_getElem?
    intro j
    by_cases hj : j < (T.at t).size
    · rw [zipV_getElem? _ _ _ (by rw [hks.1, p1]) (by rw [p1]; exact hj), p2 j hj, Array.getElem?_toList, harr j hj, kindAt_lt (by rw [hks.1]; exact hj)]
    · rw [List.getElem?_eq_none (by simp; omega), List.getElem?_eq_none (by rw [zipV_length _ _ (by rw [hks.1, p1]), p1]; omega)]

theorem run_load_cell {x : Addr} {u : Value} (h : w.cell? x = some u) : (load x).run P w = .ok u w := by
  simp [h]

/-- A load of a flat type at a place whose cells are known. -/
theorem run_loadVar_flat (hT : TabOK P T) {t : TypeId} {t0 : Option TypeId} {l : List Int} {off b o : Nat} (hfl : isFlatTy T t = true) (hl : off + (T.at t).size ≤ l.length) (hr : t0 = some t → off = 0 → l.length = (T.at t).size)
    (hc : CellsAt w b o (T.at t).ks l off (T.at t).size) : ∃ u, (loadVar t ⟨b, o, none⟩).run P w = .ok u w ∧ FV T (loadI (T.at t) t t0 l off) u := by
  have hne := flat_ne hT hfl
  have hks := (hT t).flat hfl
  obtain ⟨f1, f2⟩ := loadI_FV hT (t0 := t0) hfl hl hr
  cases ha : (T.at t).d.isAgg with
  | false =>
    obtain ⟨sk, e1, e2, e3⟩ := f1 ha
    refine ⟨_, ?_, e3⟩
    have hs : (T.at t).size = 1 := by rw [← hks.1, e1]; rfl
    have h0 := hc 0 (by omega)
    rw [e1] at h0
    simp only [Nat.add_zero, kindAt, List.length_singleton, Nat.mod_one, List.getD_cons_zero] at h0
    unfold loadVar
    rw [Sem.run_bind, TabOK.isAgg hT hne, ha]
    simp only [Result.andThen_ok, Bool.false_eq_true, if_false]
    exact run_load_cell h0
  | true =>
    let cs : List Value := (List.range (T.at t).size).map fun j => (kindAt (T.at t).ks j).val (rd l (off + j))
    have hcs : cs.length = (T.at t).size := by simp [cs]
    have hget : ∀ j, j < (T.at t).size → cs[j]? = some ((kindAt (T.at t).ks j).val (rd l (off + j))) := by
      intro j hj
      simp [cs, hj]
    refine ⟨.agg cs.toArray, ?_, f2 ha _ (by simpa using hcs) fun j hj => by rw [List.getElem?_toArray]; exact hget j hj⟩
    unfold loadVar
    rw [Sem.run_bind, TabOK.isAgg hT hne, ha]
    simp only [Result.andThen_ok, if_true]
    rw [Sem.run_bind, TabOK.size hT hne]
    simp only [Result.andThen_ok]
    rw [Sem.run_bind]
    have hrun := run_loadCells_list (P := P) w ⟨b, o, none⟩ cs (by
      intro j v hj
      have hj' : j < (T.at t).size := by
        rcases Nat.lt_or_ge j cs.length with hx | hx
        · omega
        · rw [List.getElem?_eq_none hx] at hj; cases hj
      rw [hget j hj'] at hj
      injection hj with hj
      subst hj
      have hadd : (⟨b, o, none⟩ : Addr).add j = ⟨b, o + j, none⟩ := by unfold Addr.add; split <;> simp_all
      rw [hadd]
      exact hc j hj')
    rw [hcs] at hrun
    rw [hrun]
    rfl

theorem run_loadVar_one (hT : TabOK P T) {t : TypeId} {b o : Nat} {u : Value} (hne : (T.at t).d ≠ .other) (ha : (T.at t).d.isAgg = false) (hc : w.cell? ⟨b, o, none⟩ = some u) : (loadVar t ⟨b, o, none⟩).run P w = .ok u w := by
  unfold loadVar
  rw [Sem.run_bind, TabOK.isAgg hT hne, ha]
  simp only [Result.andThen_ok, Bool.false_eq_true, if_false]
  exact run_load_cell hc

/-! ## Cells that are no row of numbers -/

theorem sameSK_eq {j k : SK} (h : sameSK j k = true) : j = k := by
  cases j with
  | bool => cases k with
    | bool => rfl
    | int k => cases h
  | int j => cases k with
    | bool => cases h
    | int k => cases j <;> cases k <;> first | rfl | (simp [sameSK] at h)

theorem rdo_some {cs : List OC} {i : Nat} {oc : OC} (h : rdo cs i = oc) (hu : oc ≠ .u) : cs[i]? = some oc := by
  unfold rdo at h
  rw [List.getD_eq_getElem?_getD] at h
  cases hc : cs[i]? with
  | none => rw [hc] at h; exact absurd h.symm hu
  | some x => rw [hc] at h; simp only [Option.getD_some] at h; rw [h]

theorem rdos_length (cs : List OC) (off : Nat) : ∀ (n j : Nat), (rdos cs off j n).length = n := by
  intro n
  induction n with
  | zero => intro j; rfl
  | succ n ih => intro j; simp [rdos, ih]

theorem rdos_get (cs : List OC) (off : Nat) : ∀ (n j i : Nat), i < n → (rdos cs off j n)[i]? = some (rdo cs (off + (j + i))) := by
  intro n
  induction n with
  | zero => intro j i h; omega
  | succ n ih =>
    intro j i h
    cases i with
    | zero => rfl
    | succ i =>
      simp only [rdos, List.getElem?_cons_succ]
      rw [ih (j + 1) i (by omega)]
      congr 2
      omega

theorem ocInts_spec {cs : List OC} : ∀ {ks : List SK} {off : Nat} {l : List Int}, ocInts cs off ks = some l → l.length = ks.length ∧ ∀ j, j < ks.length → ∃ oc, cs[off + j]? = some oc ∧ noMap oc = true ∧ ∀ (w : World) (Fr : Nat → Prop) (u : Value), OCB T w Fr oc u → u = (ks.getD j .bool).val (rd l j) := by
  intro ks
  induction ks with
  | nil =>
    intro off l h
    simp only [ocInts, Option.some.injEq] at h
    subst h
    exact ⟨rfl, fun j hj => by simp at hj⟩
  | cons k r ih =>
    intro off l h
    simp only [ocInts] at h
    split at h
    · rename_i n q hn hq
      injection h with h
      subst h
      obtain ⟨g1, g2⟩ := ih hq
      refine ⟨by simp [g1], fun j hj => ?_⟩
      cases j with
      | zero =>
        cases ho : rdo cs off with
        | i kd m =>
          rw [ho] at hn
          simp only [ocInt] at hn
          cases hs : sameSK k (.int kd) with
          | false => rw [hs] at hn; cases hn
          | true =>
            rw [hs] at hn
            injection hn with hn
            have := sameSK_eq hs
            subst this hn
            exact ⟨.i kd m, rdo_some ho (by simp), rfl, fun w Fr u hu => hu⟩
        | b x =>
          rw [ho] at hn
          simp only [ocInt] at hn
          cases hs : sameSK k .bool with
          | false => rw [hs] at hn; cases hn
          | true =>
            rw [hs] at hn
            injection hn with hn
            have := sameSK_eq hs
            subst this hn
            refine ⟨.b x, rdo_some ho (by simp), rfl, fun w Fr u hu => ?_⟩
            rw [show u = .bool x from hu]
            cases x <;> rfl
        | _ => rw [ho] at hn; simp [ocInt] at hn
      | succ j =>
        obtain ⟨oc, q1, q2, q3⟩ := g2 j (by simpa using hj)
        refine ⟨oc, ?_, q2, fun w Fr u hu => ?_⟩
        · rw [show off + (j + 1) = off + 1 + j by omega]; exact q1
        · rw [q3 w Fr u hu]
          rfl
    · cases h

theorem rds_all' (l : List Int) : ∀ (n : Nat), l.length = n → rds l 0 0 n = l := by
  intro n hn
  apply List.ext_getElem?
  intro i
  rcases Nat.lt_or_ge i n with hi | hi
  · have := rd_rds l 0 n 0 i hi
    have h1 : i < (rds l 0 0 n).length := by rw [rds_length]; exact hi
    have h2 : i < l.length := by omega
    simp only [rd, List.getD_eq_getElem?_getD, Nat.zero_add] at this
    rw [List.getElem?_eq_getElem h1, List.getElem?_eq_getElem h2] at this ⊢
    simpa using this
  · rw [List.getElem?_eq_none (by rw [rds_length]; exact hi), List.getElem?_eq_none (by omega)]

theorem payI_all {ti : TyI} {t : TypeId} {l : List Int} (h : l.length = ti.size) : payI ti t none l 0 = l := by
  unfold payI
  cases Nat.ble ti.size 8 with
  | true => exact rds_all' l _ h
  | false =>
    simp only [rootEq, win, cond_false, List.drop_zero]
    rw [← h]
    exact List.take_length

theorem loadO_sound (hT : TabOK P T) {ow : Option Nat} {t : TypeId} {cs : List OC} {off b o : Nat} {v : V} (hv : loadO T ow t cs off = some v)
    (hc : ∀ (j : Nat) (oc : OC), cs[off + j]? = some oc → ∃ u, w.cell? ⟨b, o + j, none⟩ = some u ∧ u.oneCell' = true ∧ (noMap oc = true → OCB T w Fr oc u))
    (hm : ∀ (es : List (List Int × Int)) (u : Value), cs[off]? = some (.m t es) → w.cell? ⟨b, o, none⟩ = some u → LV P T w Fr blk ρ (match ow with | some k => .mapc k off t | none => .mapv t es) u) :
    ∃ u, (loadVar t ⟨b, o, none⟩).run P w = .ok u w ∧ LV P T w Fr blk ρ v u := by
  unfold loadO at hv
  have one : ∀ (oc : OC), cs[off]? = some oc → ∃ u, w.cell? ⟨b, o, none⟩ = some u ∧ (noMap oc = true → OCB T w Fr oc u) := by
    intro oc h
    obtain ⟨u, h1, _, h2⟩ := hc 0 oc (by simpa using h)
    exact ⟨u, by simpa using h1, h2⟩
  split at hv
  · rename_i hfl
    have hfl : isFlatTy T t = true := hfl
    have hks := flat_len hT hfl
    split at hv
    · rename_i l hl
      obtain ⟨g1, g2⟩ := ocInts_spec (T := T) hl
      have hcells : CellsAt w b o (T.at t).ks l 0 (T.at t).size := by
        intro j hj
        obtain ⟨oc, q1, q2, q3⟩ := g2 j (by omega)
        obtain ⟨u, c1, _, c2⟩ := hc j oc q1
        rw [c1, q3 w Fr u (c2 q2), Nat.zero_add, kindAt_lt (by omega)]
      obtain ⟨u, h1, h2⟩ := run_loadVar_flat (t0 := none) hT hfl (by omega) (by simp) hcells
      refine ⟨u, h1, .flatV ?_⟩
      split at hv
      · rename_i sk hd
        injection hv with hv
        subst hv
        have : loadI (T.at t) t none l 0 = sk.mk (rd l 0) := by unfold loadI; rw [hd]
        rw [← this]
        exact h2
      · rename_i hd
        injection hv with hv
        subst hv
        have : loadI (T.at t) t none l 0 = .agg t (payI (T.at t) t none l 0) := by
          unfold loadI payI
          cases hdd : (T.at t).d with
          | sc sk => exact absurd hdd (hd sk)
          | _ => rfl
        rw [payI_all (by omega)] at this
        rw [← this]
        exact h2
    · cases hv
  · split at hv
    · rename_i fs hd
      have hcond : (Nat.ble (off + (T.at t).size) cs.length && (rdos cs off 0 (T.at t).size).all noMap) = true ∧ some (V.reco t (rdos cs off 0 (T.at t).size)) = some v := by
        cases hb : (Nat.ble (off + (T.at t).size) cs.length && (rdos cs off 0 (T.at t).size).all noMap) with
        | true => rw [hb] at hv; exact ⟨rfl, hv⟩
        | false => rw [hb] at hv; cases hv
      obtain ⟨hcond, hv⟩ := hcond
      injection hv with hv
      subst hv
      rw [Bool.and_eq_true] at hcond
      have hle := Nat.le_of_ble_eq_true hcond.1
      have hne : (T.at t).d ≠ .other := by rw [hd]; simp
      have ha : (T.at t).d.isAgg = true := by rw [hd]; rfl
      have each : ∀ j : Nat, ∃ u : Value, j < (T.at t).size → w.cell? ⟨b, o + j, none⟩ = some u ∧ u.oneCell' = true ∧ OCB T w Fr (rdo cs (off + j)) u ∧ noMap (rdo cs (off + j)) = true := by
        intro j
        by_cases hj : j < (T.at t).size
        · have hg : cs[off + j]? = some (rdo cs (off + j)) := by
            unfold rdo
            rw [List.getD_eq_getElem?_getD, List.getElem?_eq_getElem (by omega)]
            rfl
          obtain ⟨u, q1, q2, q3⟩ := hc j _ hg
          have hnm : noMap (rdo cs (off + j)) = true := by
            have := List.all_eq_true.1 hcond.2 (rdo cs (off + j)) (by
              refine List.mem_iff_getElem?.2 ⟨j, ?_⟩
              rw [rdos_get _ _ _ _ _ hj, Nat.zero_add])
            exact this
          exact ⟨u, fun _ => ⟨q1, q2, q3 hnm, hnm⟩⟩
        · exact ⟨undef, fun h => absurd h hj⟩
      obtain ⟨f, hf⟩ := Classical.axiomOfChoice each
      have hget : ∀ j, j < (T.at t).size → ((List.range (T.at t).size).map f)[j]? = some (f j) := by intro j hj; simp [hj]
      refine ⟨.agg ((List.range (T.at t).size).map f).toArray, ?_, .bv _ _ (.reco t _ _ ha (rdos_length _ _ _ _) (by simp [rdos_length]) ?_)⟩
      · unfold loadVar
        rw [Sem.run_bind, TabOK.isAgg hT hne, ha]
        simp only [Result.andThen_ok, if_true]
        rw [Sem.run_bind, TabOK.size hT hne]
        simp only [Result.andThen_ok]
        rw [Sem.run_bind]
        have hrun := run_loadCells_list (P := P) w ⟨b, o, none⟩ ((List.range (T.at t).size).map f) (by
          intro j v hj
          have hj' : j < (T.at t).size := by
            rcases Nat.lt_or_ge j (T.at t).size with hx | hx
            · exact hx
            · rw [List.getElem?_eq_none (by simp; omega)] at hj; cases hj
          rw [hget j hj'] at hj
          injection hj with hj
          subst hj
          have hadd : (⟨b, o, none⟩ : Addr).add j = ⟨b, o + j, none⟩ := by unfold Addr.add; split <;> simp_all
          rw [hadd]
          exact (hf j hj').1)
        have hl : ((List.range (T.at t).size).map f).length = (T.at t).size := by simp
        rw [hl] at hrun
        rw [hrun]
        rfl
      · intro j oc hj
        have hj' : j < (T.at t).size := by
          rcases Nat.lt_or_ge j (T.at t).size with hx | hx
          · exact hx
          · rw [List.getElem?_eq_none (by rw [rdos_length]; exact hx)] at hj; cases hj
        rw [rdos_get _ _ _ _ _ hj', Nat.zero_add] at hj
        injection hj with hj
        subst hj
        obtain ⟨q1, q2, q3, q4⟩ := hf j hj'
        exact ⟨f j, by rw [List.getElem?_toArray]; exact hget j hj', q2, q3, q4⟩
    · rename_i hd
      split at hv
      · rename_i x ho
        injection hv with hv
        subst hv
        obtain ⟨u, h1, h2⟩ := one _ (rdo_some ho (by simp))
        refine ⟨u, run_loadVar_one hT (by rw [hd]; simp) (by rw [hd]; rfl) h1, ?_⟩
        rw [show u = .string x from h2 rfl]
        exact .ofStr x
      · cases hv
    · rename_i e hd
      split at hv
      · rename_i e' l ho
        cases hb : Nat.beq e' e with
        | false => rw [hb] at hv; cases hv
        | true =>
          rw [hb] at hv
          injection hv with hv
          subst hv
          have := Nat.eq_of_beq_eq_true hb
          subst this
          obtain ⟨u, h1, h2⟩ := one _ (rdo_some ho (by simp))
          exact ⟨u, run_loadVar_one hT (by rw [hd]; simp) (by rw [hd]; rfl) h1, .bv _ _ (.slv _ _ _ (h2 rfl))⟩
      · cases hv
    · rename_i kt et hd
      split at hv
      · rename_i t' es ho
        cases hb : Nat.beq t' t with
        | false => rw [hb] at hv; cases hv
        | true =>
          rw [hb] at hv
          have := Nat.eq_of_beq_eq_true hb
          subst this
          have hg := rdo_some ho (by simp)
          obtain ⟨u, h1, _⟩ := one _ hg
          refine ⟨u, run_loadVar_one hT (by rw [hd]; simp) (by rw [hd]; rfl) h1, ?_⟩
          have hlv := hm es u hg h1
          cases ow with
          | none => injection hv with hv; subst hv; exact hlv
          | some k => injection hv with hv; subst hv; exact hlv
      · cases hv
    · cases hv

end Go.Ev
end

