/- The values and the operations of the V-evaluator: Go's operations on abstract values, without memory addresses that a schedule could turn. -/
import GoSem.Core.Program
import GoSem.Core.Utf8
import GoSem.Op.String
namespace Go.VE

/-- What is known of an immutable slice: its cells stay for ever ('perm'), they do and its capacity is its length ('clip'), or they stay while this call runs ('brw');
it is nil ('nl'); it isn't nil ('em': else as perm; 'ce': else as clip). -/
inductive Tag where
  | perm | clip | brw | nl | em | ce
  deriving DecidableEq

/-- The capacity is the length. -/
def clipB : Tag → Bool
  | .clip | .nl | .ce => true
  | _ => false

/-- It is known not to be nil. -/
def someB : Tag → Bool
  | .em | .ce => true
  | _ => false

inductive V where
  | undef
  | bool (b : Bool)
  | int (k : IntKind) (n : Int)
  | str (s : List UInt8)
  | agg (cs : List V)
  | tup (vs : List V)
  | sl (z : Nat) (es : List V) (t : Tag)
  | gsl (B ep z off len : Nat)
  | eptr (e : V) (o : Nat) (t : Tag)
  | ptr (B ep i o : Nat)
  | nilp
  | func (f : Nat) (first cap : List V)
  | nilf
  | iface (t : Nat) (v : V)
  | nili
  | itr (B : Nat)
  | mapr (B : Nat)
  | nilm

inductive Blk where
  | arr (es : List V)
  | iter (s : List UInt8) (pos : Nat)
  | map (es : List (Int × V))
  | dead

abbrev Heap := List Blk
abbrev Fr := List (Nat × V)

def lk : Fr → Nat → V
  | [], _ => .undef
  | (n, v) :: fr, t => if n = t then v else lk fr t

def keep (ks : List Nat) (fr : Fr) : Fr := ks.map fun t => (t, lk fr t)

mutual
/-- No reference to the heap, nothing borrowed. -/
def closedB : V → Bool
  | .undef | .bool _ | .int _ _ | .str _ | .nilp | .nilf | .nili | .nilm => true
  | .agg cs => closedL cs
  | .tup cs => closedL cs
  | .sl _ es t => (match t with | .brw => false | _ => true) && closedL es
  | .eptr e _ t => (match t with | .brw => false | _ => true) && closedB e
  | .func _ a b => closedL a && closedL b
  | .iface _ v => closedB v
  | .gsl .. | .ptr .. | .itr _ | .mapr _ => false
def closedL : List V → Bool
  | [] => true
  | v :: l => closedB v && closedL l
end

mutual
/-- Every reference lies below block n. -/
def belowB (n : Nat) : V → Bool
  | .undef | .bool _ | .int _ _ | .str _ | .nilp | .nilf | .nili | .nilm => true
  | .agg cs => belowL n cs
  | .tup cs => belowL n cs
  | .sl _ es _ => belowL n es
  | .eptr e _ _ => belowB n e
  | .func _ a b => belowL n a && belowL n b
  | .iface _ v => belowB n v
  | .gsl B .. => decide (B < n)
  | .ptr B .. => decide (B < n)
  | .itr B => decide (B < n)
  | .mapr B => decide (B < n)
def belowL (n : Nat) : List V → Bool
  | [] => true
  | v :: l => belowB n v && belowL n l
end

def belowBlk (n : Nat) : Blk → Bool
  | .arr es => belowL n es
  | .iter .. => true
  | .map es => es.all fun x => belowB n x.2
  | .dead => true

def V.cells : V → List V
  | .agg cs => cs
  | v => [v]

/-- A value of which something is known, and no list of results. -/
def okV : V → Bool
  | .tup _ | .undef => false
  | _ => true

def ldc (v : V) (agg : Bool) (n o : Nat) : Option V :=
  if agg then (if o + n ≤ v.cells.length then some (.agg ((v.cells.drop o).take n)) else none) else v.cells[o]?

def stc (v : V) (n o : Nat) (x : V) : Option V :=
  if x.cells.length = n ∧ o + n ≤ v.cells.length ∧ okV x = true then
    match v with
    | .agg cs => some (.agg (cs.take o ++ x.cells ++ cs.drop (o + n)))
    | _ => match x with | .agg _ => none | x => some x
  else none

def byteV (b : UInt8) : V := .int .u8 b.toNat

def bytesOf : List V → Option (List UInt8)
  | [] => some []
  | .int .u8 n :: l => (bytesOf l).map (UInt8.ofNat n.toNat :: ·)
  | _ => none

inductive VOpd where
  | t (n : Nat)
  | c (v : V)

def opd (fr : Fr) : VOpd → V
  | .t n => lk fr n
  | .c v => v

/-- The kinds of a struct's cells, for its '=='. -/
inductive EK where
  | b | i | s
  deriving DecidableEq

def eqK (k : EK) (x y : V) : Option Bool :=
  match k, x, y with
  | .b, .bool a, .bool b => some (a == b)
  | .i, .int k a, .int k' b => if k = k' then some (a == b) else none
  | .s, .str a, .str b => some (a == b)
  | _, _, _ => none

def eqKs : List EK → List V → List V → Option Bool
  | [], [], [] => some true
  | k :: ks, x :: a, y :: b => (eqK k x y).bind fun r => if r then eqKs ks a b else some false
  | _, _, _ => none

/-- '==' of two bools, or of two structs of plain cells. -/
def eqV (ks : Option (List EK)) (x y : V) : Option Bool :=
  match ks with
  | none => eqK .b x y
  | some ks => match x, y with
    | .agg a, .agg b => eqKs ks a b
    | _, _ => none

/-- Whose nil: a pointer's, an interface's, a function's, a map's, a slice's. -/
inductive NK where
  | p | i | f | m | s
  deriving DecidableEq

/-- '==' with the nil of the text ('x == nil'). -/
def isNil (k : NK) (x : V) : Option Bool :=
  match k, x with
  | .p, .nilp => some true
  | .p, .ptr .. => some false
  | .p, .eptr .. => some false
  | .i, .nili => some true
  | .i, .iface .. => some false
  | .f, .nilf => some true
  | .f, .func .. => some false
  | .m, .nilm => some true
  | .m, .mapr _ => some false
  | .s, .sl _ [] .nl => some true
  | .s, .sl _ [] .em => some false
  | .s, .sl _ [] .ce => some false
  | .s, .sl _ (_ :: _) _ => some false
  | .s, .gsl _ _ _ _ (_ + 1) => some false
  | _, _ => none

inductive CK where
  | int (k : IntKind)
  | id
  | b2s
  | s2b

def wrapI (k : IntKind) (n : Int) : V := .int k (k.wrap n)

def strOp (op : BinOp) (x y : List UInt8) : Option V :=
  match op with
  | .add => if x.length + y.length ≤ 9223372036854775807 then some (.str (x ++ y)) else none
  | .eql => some (.bool (x == y))
  | .neq => some (.bool (!(x == y)))
  | .lss => some (.bool (Op.bytesLess x y))
  | .leq => some (.bool (Op.bytesLess x y || x == y))
  | .gtr => some (.bool (!(Op.bytesLess x y || x == y)))
  | .geq => some (.bool (!Op.bytesLess x y))
  | _ => none

def intOp (op : BinOp) (k : IntKind) (a b : Int) : Option V :=
  match op with
  | .add => some (wrapI k (a + b))
  | .sub => some (wrapI k (a - b))
  | .mul => some (wrapI k (a * b))
  | .quo => if b = 0 then none else some (wrapI k (a.tdiv b))
  | .rem => if b = 0 then none else some (.int k (a.tmod b))
  | .and => some (wrapI k (BitVec.ofInt k.bits a &&& BitVec.ofInt k.bits b).toNat)
  | .or => some (wrapI k (BitVec.ofInt k.bits a ||| BitVec.ofInt k.bits b).toNat)
  | .xor => some (wrapI k (BitVec.ofInt k.bits a ^^^ BitVec.ofInt k.bits b).toNat)
  | .andNot => some (wrapI k (BitVec.ofInt k.bits a &&& ~~~BitVec.ofInt k.bits b).toNat)
  | .eql => some (.bool (a == b))
  | .neq => some (.bool (a != b))
  | .lss => some (.bool (decide (a < b)))
  | .leq => some (.bool (decide (a ≤ b)))
  | .gtr => some (.bool (decide (a > b)))
  | .geq => some (.bool (decide (a ≥ b)))
  | _ => none

def shiftOp (op : BinOp) (k : IntKind) (a b : Int) : Option V :=
  if b < 0 then none
  else match op with
    | .shl => some (wrapI k (a * 2 ^ min b.toNat k.bits))
    | .shr => some (.int k (a.fdiv (2 ^ min b.toNat k.bits)))
    | _ => none

def binV (op : BinOp) (x y : V) : Option V :=
  match x, y with
  | .int k a, .int k' b =>
    match op with
    | .shl | .shr => shiftOp op k a b
    | _ => if k = k' then intOp op k a b else none
  | .str a, .str b => strOp op a b
  | _, _ => none

def unV (op : UnOp) (x : V) : Option V :=
  match op, x with
  | .not, .bool b => some (.bool (!b))
  | .neg, .int k n => some (wrapI k (0 - n))
  | .xor, .int k n => some (wrapI k (BitVec.ofInt k.bits (if k.signed then -1 else k.max) ^^^ BitVec.ofInt k.bits n).toNat)
  | _, _ => none

def convV (c : CK) (x : V) : Option V :=
  match c, x with
  | .int k, .int _ n => some (wrapI k n)
  | .id, .str s => some (.str s)
  | .b2s, .sl 1 es _ => (bytesOf es).map .str
  | .s2b, .str s => some (.sl 1 (s.map byteV) .perm)
  | _, _ => none

def faddrV (x : V) (off : Nat) : Option V :=
  match x with
  | .ptr B ep i o => some (.ptr B ep i (o + off))
  | .eptr e o t => some (.eptr e (o + off) t)
  | _ => none

def iaddrV (n : Nat) (x i : V) : Option V :=
  match x, i with
  | .sl z es t, .int _ i =>
    if n = z ∧ 0 ≤ i then (es[i.toNat]?).map fun e => .eptr e 0 t else none
  | .gsl B ep z off len, .int _ i =>
    if n = z ∧ 0 ≤ i ∧ i < len then some (.ptr B ep (off + i.toNat) 0) else none
  | _, _ => none

def iaddrA (len n : Nat) (x i : V) : Option V :=
  match i with
  | .int _ i => if 0 ≤ i ∧ i < len then faddrV x (i.toNat * n) else none
  | _ => none

def idxS (x i : V) : Option V :=
  match x, i with
  | .str s, .int _ i => if 0 ≤ i then (s[i.toNat]?).map byteV else none
  | _, _ => none

def idxA (len n : Nat) (agg : Bool) (x i : V) : Option V :=
  match i with
  | .int _ i => if 0 ≤ i ∧ i < len then (match x with | .agg _ => ldc x agg n (i.toNat * n) | _ => none) else none
  | _ => none

/-- The bounds of a slice expression: (low, high), both given or not. -/
def bnd (x : Option V) (d : Nat) (top : Nat) : Option Nat :=
  match x with
  | none => some d
  | some (.int _ i) => if 0 ≤ i ∧ i ≤ top then some i.toNat else none
  | _ => none

def sliceTag (t : Tag) (full given : Bool) : Tag :=
  match t with
  | .brw => .brw
  | .clip => if full then .clip else .perm
  | .perm => if given && full then .clip else .perm
  | .nl => .nl
  | .em => if given && full then .ce else .em
  | .ce => if full then .ce else .em

/-- n: the cells of an element; 0: a text. -/
def sliceV (n : Nat) (x : V) (lo hi mx : Option V) : Option V :=
  match x with
  | .str s =>
    if n = 0 ∧ mx.isNone = true then (bnd hi s.length s.length).bind fun h => (bnd lo 0 h).map fun l => .str ((s.take h).drop l) else none
  | .sl z es t =>
    if n = z ∧ 0 < n then
      (bnd mx es.length es.length).bind fun m => (bnd hi es.length m).bind fun h => (bnd lo 0 h).map fun l =>
        .sl z ((es.take h).drop l) (sliceTag t (h == m) mx.isSome)
    else none
  | .gsl B ep z off len =>
    if n = z ∧ 0 < n then
      (bnd mx len len).bind fun m => (bnd hi len m).bind fun h => (bnd lo 0 h).map fun l => .gsl B ep z (off + l) (h - l)
    else none
  | _ => none

def lenV (text : Bool) (x : V) : Option V :=
  if text then (match x with | .str s => some (.int .i64 s.length) | _ => none)
  else match x with
    | .sl _ es _ => some (.int .i64 es.length)
    | .gsl _ _ _ _ len => some (.int .i64 len)
    | _ => none

def fillV (cells : List V) : List (Nat × V) → Option (List V)
  | [] => some cells
  | (off, v) :: r =>
    if off + v.cells.length ≤ cells.length ∧ okV v = true then fillV (cells.take off ++ v.cells ++ cells.drop (off + v.cells.length)) r else none

def foldV (f : Int → Int → Int) : List V → Option V
  | [] => none
  | .int k a :: r => go k a r
  | _ => none
where
  go (k : IntKind) (a : Int) : List V → Option V
    | [] => some (.int k a)
    | .int k' b :: r => if k = k' then go k (f a b) r else none
    | _ => none

def tassertV (ty : Nat) (zero : V) (ok : Bool) (x : V) : Option V :=
  match x with
  | .iface t v => if t = ty then some (if ok then .tup [v, .bool true] else v) else if ok then some (.tup [zero, .bool false]) else none
  | .nili => if ok then some (.tup [zero, .bool false]) else none
  | _ => none

inductive VOp where
  | mv (x : VOpd)
  | pick (c a b : VOpd)
  | alloc (z : V)
  | box (x : VOpd)
  | build (z : List V) (parts : List (Nat × Nat × VOpd))
  | buildSl (n : Nat) (parts : List VOpd)
  | load (agg : Bool) (n : Nat) (a : VOpd)
  | store (n : Nat) (fz : Bool) (a x : VOpd)
  | nilchk (x : VOpd)
  | bin (op : BinOp) (x y : VOpd)
  | isnil (k : NK) (neg : Bool) (x : VOpd)
  | eq (neg : Bool) (ks : Option (List EK)) (x y : VOpd)
  | un (op : UnOp) (x : VOpd)
  | conv (k : CK) (x : VOpd)
  | mkif (t : Nat) (x : VOpd)
  | mkfn (f : Nat) (first cap : List VOpd)
  | mksl (z : V) (bytes : Nat) (len cap : VOpd)
  | slice (n : Nat) (x : VOpd) (lo hi mx : Option VOpd)
  | faddr (off : Nat) (x : VOpd)
  | fld (agg : Bool) (n off : Nat) (x : VOpd)
  | iaddr (n : Nat) (x i : VOpd)
  | iaddrA (len n : Nat) (x i : VOpd)
  | idxS (x i : VOpd)
  | idxA (len n : Nat) (agg : Bool) (x i : VOpd)
  | tassert (ty : Nat) (zero : V) (ok : Bool) (x : VOpd)
  | ext (x : VOpd) (i : Nat)
  | len (text : Bool) (x : VOpd)
  | app (z bytes : Nat) (fz : Bool) (s x : VOpd)
  | mn (xs : List VOpd)
  | mx (xs : List VOpd)
  | call (f : Nat) (args : List VOpd)
  | calld (ro : Bool) (f : VOpd) (args : List VOpd)
  | inv (m : Nat) (recv : VOpd) (args : List VOpd)
  | rng (x : VOpd)
  | nxt (it : VOpd)
  | nilacc (z : Nat)
  | mkmap
  | mapget (ok : Bool) (zero : V) (m k : VOpd)
  | mapput (m k x : VOpd)
  /-- an operation that nothing is said of: it is not come to -/
  | stuck

structure VIt where
  dst : Option Nat
  op : VOp
  g : Option (Nat × Bool)

/-- An item of a region that draws its order: which operation of the text it is, those that must be ahead of it (by their bits), and which loads ahead of it (by their places here) may run behind it. -/
structure VDt where
  it : VIt
  ix : Nat
  bm : Nat
  xl : List Nat

inductive VCode where
  | skip
  | reg (ops : List VIt) (ks : List Nat)
  | drw (ds : List VDt) (ks : List Nat)
  | seq (a b : VCode)
  | cond (c : VOpd) (a b : VCode)
  | blk (id : Nat) (body : VCode)
  | loop (ks : List Nat) (body : VCode)
  | exit (id : Nat)
  | ret

inductive VRes where
  | tmp (t : Nat)
  | cell (t : Nat) (agg : Bool) (n : Nat)

structure VFunc where
  /-- does it write what was there before the call? -/
  rw : Bool
  results : List VRes
  body : VCode
  /-- what a function without a Go body, or one that is taken by its contract, answers -/
  ext : Option (List V → Option V) := none

/-- The program, as the evaluator sees it. -/
structure VP where
  /-- let go of blocks that nobody holds? (of no account for what is answered) -/
  gc : Bool
  fn : Nat → Option VFunc
  /-- the method (by its number) of a dynamic type (by its number) -/
  meth : Nat → Nat → Option Nat

/-- The operations that look at no memory and make none that can be told from another. -/
def pureOp (fr : Fr) : VOp → Option V
  | .mv x => some (opd fr x)
  | .pick c a b => (match opd fr c with | .bool c => some (if c then opd fr a else opd fr b) | _ => none)
  | .build z ps => (fillV z (ps.map fun p => (p.1, opd fr p.2.2))).bind fun cs => if (ps.all fun p => (opd fr p.2.2).cells.length == p.2.1) then some (.agg cs) else none
  | .buildSl n ps => if ((ps.map (opd fr)).all fun v => v.cells.length == n && okV v) then some (.sl n (ps.map (opd fr)) .ce) else none
  | .nilchk x => (match opd fr x with | .ptr B ep i o => some (.ptr B ep i o) | .eptr e o t => some (.eptr e o t) | .func f a b => some (.func f a b) | .iface t v => some (.iface t v) | _ => none)
  | .bin op x y => binV op (opd fr x) (opd fr y)
  | .isnil k neg x => (isNil k (opd fr x)).map fun b => .bool (if neg then !b else b)
  | .eq neg ks x y => (eqV ks (opd fr x) (opd fr y)).map fun b => .bool (if neg then !b else b)
  | .un op x => unV op (opd fr x)
  | .conv k x => convV k (opd fr x)
  | .mkif t x => some (.iface t (opd fr x))
  | .mkfn f a b => some (.func f (a.map (opd fr)) (b.map (opd fr)))
  | .slice n x lo hi mx => sliceV n (opd fr x) (lo.map (opd fr)) (hi.map (opd fr)) (mx.map (opd fr))
  | .faddr off x => faddrV (opd fr x) off
  | .fld agg n off x => (match opd fr x with | .agg cs => ldc (.agg cs) agg n off | _ => none)
  | .iaddr n x i => iaddrV n (opd fr x) (opd fr i)
  | .iaddrA len n x i => iaddrA len n (opd fr x) (opd fr i)
  | .idxS x i => idxS (opd fr x) (opd fr i)
  | .idxA len n agg x i => idxA len n agg (opd fr x) (opd fr i)
  | .tassert ty z ok x => tassertV ty z ok (opd fr x)
  | .ext x i => (match opd fr x with | .tup vs => vs[i]? | _ => none)
  | .len text x => lenV text (opd fr x)
  | .mn xs => foldV (fun a b => if b < a then b else a) (xs.map (opd fr))
  | .mx xs => foldV (fun a b => if b > a then b else a) (xs.map (opd fr))
  | _ => none

/-! ### Equality, reckoned -/

mutual
def beqV : V → V → Bool
  | .undef, y => (match y with | .undef => true | _ => false)
  | .bool a, y => (match y with | .bool b => a == b | _ => false)
  | .int k n, y => (match y with | .int k' n' => decide (k = k') && n == n' | _ => false)
  | .str s, y => (match y with | .str s' => s == s' | _ => false)
  | .agg cs, y => (match y with | .agg cs' => beqL cs cs' | _ => false)
  | .tup cs, y => (match y with | .tup cs' => beqL cs cs' | _ => false)
  | .sl z es t, y => (match y with | .sl z' es' t' => z == z' && decide (t = t') && beqL es es' | _ => false)
  | .gsl B ep z off len, y => (match y with | .gsl B' ep' z' off' len' => B == B' && ep == ep' && z == z' && off == off' && len == len' | _ => false)
  | .eptr e o t, y => (match y with | .eptr e' o' t' => o == o' && decide (t = t') && beqV e e' | _ => false)
  | .ptr B ep i o, y => (match y with | .ptr B' ep' i' o' => B == B' && ep == ep' && i == i' && o == o' | _ => false)
  | .nilp, y => (match y with | .nilp => true | _ => false)
  | .func f a b, y => (match y with | .func f' a' b' => f == f' && beqL a a' && beqL b b' | _ => false)
  | .nilf, y => (match y with | .nilf => true | _ => false)
  | .iface t v, y => (match y with | .iface t' v' => t == t' && beqV v v' | _ => false)
  | .nili, y => (match y with | .nili => true | _ => false)
  | .itr B, y => (match y with | .itr B' => B == B' | _ => false)
  | .mapr B, y => (match y with | .mapr B' => B == B' | _ => false)
  | .nilm, y => (match y with | .nilm => true | _ => false)
def beqL : List V → List V → Bool
  | [], y => (match y with | [] => true | _ => false)
  | v :: l, y => (match y with | v' :: l' => beqV v v' && beqL l l' | [] => false)
end

mutual
theorem beqV_eq : ∀ (x y : V), beqV x y = true → x = y
  | .undef, y, h => by cases y <;> simp [beqV] at h; rfl
  | .bool a, y, h => by cases y <;> simp [beqV] at h; subst h; rfl
  | .int k n, y, h => by cases y <;> simp [beqV] at h; obtain ⟨rfl, rfl⟩ := h; rfl
  | .str s, y, h => by cases y <;> simp [beqV] at h; subst h; rfl
  | .agg cs, y, h => by cases y <;> simp [beqV] at h; rw [beqL_eq _ _ h]
  | .tup cs, y, h => by cases y <;> simp [beqV] at h; rw [beqL_eq _ _ h]
  | .sl z es t, y, h => by cases y <;> simp [beqV] at h; obtain ⟨⟨rfl, rfl⟩, h⟩ := h; rw [beqL_eq _ _ h]
  | .gsl B ep z off len, y, h => by cases y <;> simp [beqV] at h; obtain ⟨⟨⟨⟨rfl, rfl⟩, rfl⟩, rfl⟩, rfl⟩ := h; rfl
  | .eptr e o t, y, h => by cases y <;> simp [beqV] at h; obtain ⟨⟨rfl, rfl⟩, h⟩ := h; rw [beqV_eq _ _ h]
  | .ptr B ep i o, y, h => by cases y <;> simp [beqV] at h; obtain ⟨⟨⟨rfl, rfl⟩, rfl⟩, rfl⟩ := h; rfl
  | .nilp, y, h => by cases y <;> simp [beqV] at h; rfl
  | .func f a b, y, h => by cases y <;> simp [beqV] at h; obtain ⟨⟨rfl, h⟩, h'⟩ := h; rw [beqL_eq _ _ h, beqL_eq _ _ h']
  | .nilf, y, h => by cases y <;> simp [beqV] at h; rfl
  | .iface t v, y, h => by cases y <;> simp [beqV] at h; obtain ⟨rfl, h⟩ := h; rw [beqV_eq _ _ h]
  | .nili, y, h => by cases y <;> simp [beqV] at h; rfl
  | .itr B, y, h => by cases y <;> simp [beqV] at h; subst h; rfl
  | .mapr B, y, h => by cases y <;> simp [beqV] at h; subst h; rfl
  | .nilm, y, h => by cases y <;> simp [beqV] at h; rfl
theorem beqL_eq : ∀ (x y : List V), beqL x y = true → x = y
  | [], y, h => by cases y <;> simp [beqL] at h; rfl
  | v :: l, y, h => by
    cases y with
    | nil => simp [beqL] at h
    | cons v' l' => simp [beqL] at h; rw [beqV_eq _ _ h.1, beqL_eq _ _ h.2]
end

mutual
@[simp] theorem beqV_refl : ∀ x : V, beqV x x = true
  | .undef | .bool _ | .int _ _ | .str _ | .gsl .. | .ptr .. | .nilp | .nilf | .nili | .itr _ | .mapr _ | .nilm => by simp [beqV]
  | .agg cs => by simp [beqV, beqL_refl cs]
  | .tup cs => by simp [beqV, beqL_refl cs]
  | .sl z es t => by simp [beqV, beqL_refl es]
  | .eptr e o t => by simp [beqV, beqV_refl e]
  | .func f a b => by simp [beqV, beqL_refl a, beqL_refl b]
  | .iface t v => by simp [beqV, beqV_refl v]
@[simp] theorem beqL_refl : ∀ x : List V, beqL x x = true
  | [] => by simp [beqL]
  | v :: l => by simp [beqL, beqV_refl v, beqL_refl l]
end

def isSomeV (o : Option V) (v : V) : Bool :=
  match o with
  | some x => beqV x v
  | none => false

theorem isSomeV_iff {o : Option V} {v : V} : isSomeV o v = true ↔ o = some v := by
  cases o with
  | none => simp [isSomeV]
  | some x => simp only [isSomeV, Option.some.injEq]; exact ⟨beqV_eq _ _, fun h => by rw [h]; exact beqV_refl _⟩

def beqBlk : Blk → Blk → Bool
  | .arr es, y => (match y with | .arr es' => beqL es es' | _ => false)
  | .iter s p, y => (match y with | .iter s' p' => s == s' && p == p' | _ => false)
  | .dead, y => (match y with | .dead => true | _ => false)
  | .map _, _ => false

theorem beqBlk_eq {x y : Blk} (h : beqBlk x y = true) : x = y := by
  cases x <;> cases y <;> simp [beqBlk] at h
  · rw [beqL_eq _ _ h]
  · obtain ⟨rfl, rfl⟩ := h; rfl
  · rfl

end Go.VE
