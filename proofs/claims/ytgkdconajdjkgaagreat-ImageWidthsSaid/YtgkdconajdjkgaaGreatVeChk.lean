/- Does a text of the V-evaluator say what the model's code says? A test that the kernel reckons, function by function. -/
import Derived.Test.YtgkdconajdjkgaaGreatVeEval
import GoSem.Core.View
import GoSem.Core.Layout
import GoSem.Op.Equal
import GoSem.Machine.Frame
namespace Go.VE
set_option linter.unusedVariables false

/-- Numbers of the seat's program for the evaluator's own numbers. -/
structure Tbl where
  fid : Nat → Option FuncId
  tid : Nat → Option TypeId
  mname : Nat → String

mutual
def isVal : V → Value → Bool
  | .bool b, v => (match v with | .bool a => a == b | _ => false)
  | .int k n, v => (match v with | .int k' m => decide (k' = k) && decide (m = n) | _ => false)
  | .str l, v => (match v with | .string s => s.data.toList == l | _ => false)
  | .nilp, v => (match v with | .pointer none => true | _ => false)
  | .sl _ es t, v => (match v with | .slice none 0 0 => es.isEmpty && (match t with | .nl => true | _ => false) | _ => false)
  | .nilm, v => (match v with | .map none => true | _ => false)
  | .nilf, v => (match v with | .nilFunc => true | _ => false)
  | .nili, v => (match v with | .nilIface => true | _ => false)
  | .agg vs, v => (match v with | .agg cs => areVals vs cs.toList | _ => false)
  | _, _ => false
def areVals : List V → List Value → Bool
  | [], l => l.isEmpty
  | v :: vs, l => (match l with | c :: cs => (match c with | .agg _ | .tuple _ => false | _ => true) && isVal v c && areVals vs cs | [] => false)
end

def valIs (v : Value) (x : V) : Bool := isVal x v

def chkOpd (T : Tbl) : Operand → VOpd → Bool
  | .tmp t, .t t' => t == t'
  | .const v, .c v' => valIs v v'
  | .func f, .c (.func i [] []) => T.fid i == some f
  | _, _ => false

def chkOpds (T : Tbl) : List Operand → List VOpd → Bool
  | [], [] => true
  | x :: l, y :: r => chkOpd T x y && chkOpds T l r
  | _, _ => false

def chkOpt (T : Tbl) : Option Operand → Option VOpd → Bool
  | none, none => true
  | some x, some y => chkOpd T x y
  | _, _ => false

section
variable (P : Program) (T : Tbl)

def szOf (t : TypeId) : Option Nat := (P.info? t).map (·.size)
def bytesIs (t : TypeId) (n : Nat) : Bool := (P.info? t).map (·.bytes) == some n
def zeroIs (t : TypeId) (z : V) : Bool :=
  match (P.info? t).bind (·.zero) with
  | some v => valIs v z
  | none => false

def isAggB (t : TypeId) : Option Bool :=
  match P.underlying t with
  | some (.struct _) | some (.array _ _) => some true
  | some _ => some false
  | none => none

def kindIs (k : EK) (t : TypeId) : Bool :=
  match k, P.underlying t with
  | .b, some .bool => true
  | .i, some (.int _) => true
  | .s, some .string => true
  | _, _ => false

def chkFields : Nat → List Field → List EK → Bool
  | _, [], [] => true
  | n, f :: fs, k :: ks => f.name != "_" && f.offset == n && kindIs P k f.type && chkFields (n + 1) fs ks
  | _, _, _ => false

/-- A type whose '==' is that of its cells: bools, structs of plain cells. -/
def eqTy (t : TypeId) (ks : Option (List EK)) : Bool :=
  match ks with
  | none => kindIs P .b t
  | some ks => match P.underlying t with
    | some (.struct fs) => !P.stoodInHeld t && !P.eqGuardType P.depth t && chkFields P 0 fs.toList ks
    | _ => false

def sliceElem (t : TypeId) : Option TypeId :=
  match P.underlying t with
  | some (.slice e) => some e
  | _ => none

def isKind (p : TypeDesc → Bool) (t : TypeId) : Bool :=
  match P.underlying t with
  | some d => p d
  | none => false

def isInt (d : TypeDesc) : Bool := match d with | .int _ => true | _ => false
def isStr (d : TypeDesc) : Bool := match d with | .string => true | _ => false
def isSlice (d : TypeDesc) : Bool := match d with | .slice _ => true | _ => false
def isU8 (d : TypeDesc) : Bool := match d with | .int .u8 => true | _ => false
def isIface (d : TypeDesc) : Bool := match d with | .interface _ => true | _ => false

/-- The parts of a struct's literal. -/
def chkParts (place : Nat → Option (Nat × Nat)) : List (Nat × Operand) → List (Nat × Nat × VOpd) → Bool
  | [], [] => true
  | (i, x) :: l, (off, n, y) :: r => decide (place i = some (off, n)) && chkOpd T x y && chkParts place l r
  | _, _ => false

def chkElems : Nat → List (Nat × Operand) → List VOpd → Bool
  | _, [], [] => true
  | k, (i, x) :: l, y :: r => i == k && chkOpd T x y && chkElems (k + 1) l r
  | _, _, _ => false

def fieldsPlace (fs : Array Field) (i : Nat) : Option (Nat × Nat) := (fs[i]?).bind fun f => (szOf P f.type).map fun n => (f.offset, n)

def isNilConst (k : NK) (x : Operand) : Bool :=
  match k, x with
  | .p, .const (.pointer none) | .i, .const .nilIface | .f, .const .nilFunc | .m, .const (.map none) | .s, .const (.slice none _ _) => true
  | _, _ => false

def nilTy (k : NK) (d : TypeDesc) : Bool :=
  match k, d with
  | .p, .pointer _ | .i, .interface _ | .f, .func _ _ _ | .m, .map _ _ | .s, .slice _ => true
  | _, _ => false

def chkOp (op : Op) (v : VOp) : Bool :=
  match op, v with
  | .move x, .mv y | .assign x, .mv y => chkOpd T x y
  | .assign (.const (.slice none 0 0)), .nilacc _ => true
  | .pick c a b, .pick c' a' b' => chkOpd T c c' && chkOpd T a a' && chkOpd T b b'
  | .alloc t, .alloc z => zeroIs P t z
  | .box _ x, .box y => chkOpd T x y
  | .build t ps, .build z ps' =>
    zeroIs P t (.agg z) &&
    match P.underlying t with
    | some (.struct fs) => (fs.toList.all fun f => (szOf P f.type).isSome) && chkParts T (fieldsPlace P fs) ps.toList ps'
    | some (.array _ e) => (match szOf P e with | some n => chkParts T (fun i => some (i * n, n)) ps.toList ps' | none => false)
    | _ => false
  | .buildSlice t len ps, .buildSl n ps' =>
    (match sliceElem P t with
     | some e => szOf P e == some n && 0 < n && decide (len * n ≤ 2 ^ 24) && (match (P.info? e).bind (·.zero) with | some z => z.cells.size == n | none => false)
     | none => false) && ps.size == len && chkElems T 0 ps.toList ps'
  | .load t a, .load agg n b => isAggB P t == some agg && (if agg then szOf P t == some n else true) && chkOpd T a b
  | .store t a x, .store n _ b y => szOf P t == some n && chkOpd T a b && chkOpd T x y
  | .nilCheck x, .nilchk y => chkOpd T x y
  | .binOp op t x y _, .bin op' x' y' =>
    decide (op = op') && chkOpd T x x' && chkOpd T y y'
  | .binOp op t x y _, .eq neg ks x' y' =>
    (match op with | .eql => !neg | .neq => neg | _ => false) && chkOpd T x x' && chkOpd T y y' && eqTy P t ks
  | .binOp op t x y _, .isnil k neg x' =>
    (match op with | .eql => !neg | .neq => neg | _ => false) && isKind P (nilTy k) t &&
    ((isNilConst k y && chkOpd T x x') || (isNilConst k x && chkOpd T y x'))
  | .unOp op _ x, .un op' y => decide (op = op') && chkOpd T x y
  | .convert s d x, .conv k y =>
    chkOpd T x y &&
    match k with
    | .int k => (P.underlying s).isSome && isKind P (fun d => match d with | .int k' => decide (k' = k) | _ => false) d
    | .id => (P.underlying s).isSome && isKind P isStr d
    | .b2s => (match sliceElem P s with | some e => isKind P isU8 e | none => false) && isKind P isStr d
    | .s2b => isKind P isStr s && (match sliceElem P d with | some e => isKind P isU8 e | none => false)
  | .makeInterface t x, .mkif i y => T.tid i == some t && isKind P (fun d => !isIface d) t && chkOpd T x y
  | .makeFunc (.func f) a b, .mkfn i a' b' => T.fid i == some f && chkOpds T a.toList a' && chkOpds T b.toList b'
  | .makeSlice t l c, .mksl z bytes l' c' =>
    (match sliceElem P t with
     | some e => bytesIs P e bytes && zeroIs P e z && szOf P e == some z.cells.length && 0 < z.cells.length && 0 < bytes
     | none => false) && chkOpd T l l' && chkOpd T c c'
  | .slice t x lo hi mx, .slice n y lo' hi' mx' =>
    (match P.underlying t with | some .string => n == 0 | some (.slice e) => szOf P e == some n && decide (0 < n) | _ => false) &&
    chkOpd T x y && chkOpt T lo lo' && chkOpt T hi hi' && chkOpt T mx mx' && (mx.isNone || hi.isSome)
  | .fieldAddr t x f, .faddr off y =>
    chkOpd T x y &&
    match P.underlying t with
    | some (.struct fs) => (match fs[f]? with | some fd => fd.offset == off && (match szOf P fd.type with | some n => n != 0 | none => false) | none => false)
    | _ => false
  | .field t x f, .fld agg n off y =>
    chkOpd T x y &&
    match P.underlying t with
    | some (.struct fs) => (match fs[f]? with | some fd => fd.offset == off && isAggB P fd.type == some agg && (if agg then szOf P fd.type == some n else true) | none => false)
    | _ => false
  | .indexAddr t x i, .iaddr n y j =>
    (match sliceElem P t with | some e => szOf P e == some n && 0 < n | none => false) && chkOpd T x y && chkOpd T i j
  | .indexAddr t x i, .iaddrA len n y j =>
    (match P.underlying t with | some (.array l e) => l == len && szOf P e == some n | _ => false) && chkOpd T x y && chkOpd T i j
  | .index t x i, .idxS y j => isKind P isStr t && chkOpd T x y && chkOpd T i j
  | .index t x i, .idxA len n agg y j =>
    (match P.underlying t with | some (.array l e) => l == len && szOf P e == some n && isAggB P e == some agg | _ => false) && chkOpd T x y && chkOpd T i j
  | .typeAssert x _ t ok, .tassert i z ok' y => T.tid i == some t && isKind P (fun d => !isIface d) t && zeroIs P t z && ok == ok' && chkOpd T x y
  | .extract x i, .ext y j => i == j && chkOpd T x y
  | .range t x, .rng y => isKind P isStr t && chkOpd T x y
  | .next x true, .nxt y => chkOpd T x y
  | .call c, v =>
    match c.callee, v with
    | .builtin .len, .len text y =>
      (match c.args.toList, c.argTypes[0]? with
       | [x], some t => isKind P (if text then isStr else isSlice) t && chkOpd T x y
       | _, _ => false)
    | .builtin .len, .mv (.c (.int .i64 n)) =>
      (match c.args.toList, c.argTypes[0]? with
       | [_], some t => (match P.underlying t with
          | some (.array m _) => decide (n = (m : Int))
          | some (.pointer a) => (match P.underlying a with | some (.array m _) => decide (n = (m : Int)) | _ => false)
          | _ => false)
       | _, _ => false)
    | .builtin .append, .app z bytes _ s x =>
      (match c.args.toList, c.argTypes[0]? with
       | [s', x'], some t =>
         (match sliceElem P t with
          | some e => szOf P e == some z && 0 < z && bytesIs P e bytes && 0 < bytes && decide (bytes ≤ 1048576) && (match (P.info? e).bind (·.zero) with | some v => v.cells.size == z | none => false)
          | none => false) &&
         (match c.argTypes[1]? with | some t' => isKind P (fun d => !isInt d) t' | none => true) && chkOpd T s' s && chkOpd T x' x
       | _, _ => false)
    | .builtin .min, .mn xs => chkOpds T c.args.toList xs
    | .builtin .max, .mx xs => chkOpds T c.args.toList xs
    | .value (.func f), .call i xs => T.fid i == some f && chkOpds T c.args.toList xs
    | .value (.tmp t), .calld _ y xs => chkOpd T (.tmp t) y && chkOpds T c.args.toList xs
    | .invoke r m, .inv i y xs => T.mname i == m && chkOpd T r y && chkOpds T c.args.toList xs
    | _, .stuck => true
    | _, _ => false
  | _, .stuck => true
  | _, _ => false

def chkIt (ops : Array Oper) (ntmps : Nat) (o : Oper) (v : VIt) : Bool :=
  o.dst == v.dst && (match o.dst with | some d => d < ntmps | none => true) &&
  (match o.guard, v.g with
   | none, none => true
   | some (j, w), some (t, w') => w == w' && (ops[j]?).bind (·.dst) == some t
   | _, _ => false) && chkOp P T o.op v.op

def chkIts (ops : Array Oper) (ntmps : Nat) : List Oper → List VIt → Bool
  | [], [] => true
  | o :: l, v :: r => chkIt P T ops ntmps o v && chkIts ops ntmps l r
  | _, _ => false

/-- What an operation does, for the question of whether two may change places. -/
inductive Cls where
  | reg | ld | ro | fresh | wr
  deriving DecidableEq

def clsOf (vp : VP) : VOp → Cls
  | .load .. => .ld
  | .call f _ => if isRO vp f then .ro else .wr
  | .calld ro _ _ => if ro then .ro else .wr
  | .inv .. => .wr
  | .alloc _ | .box _ => .fresh
  | .store .. | .mksl .. | .app .. | .nilacc _ | .rng _ | .nxt _ => .wr
  | .mkmap | .mapget .. | .mapput .. => .wr
  | _ => .reg

/-- The first stands ahead of the second in the text of the evaluator; they may change places. -/
def clsFit : Cls → Cls → Bool
  | .reg, _ | _, .reg => true
  | .ld, _ => true
  | .fresh, .ld | .fresh, .fresh | .fresh, .ro => true
  | .ro, .ld => true
  | _, _ => false

def optOpds : Option VOpd → List VOpd
  | none => []
  | some x => [x]

def vopds : VOp → List VOpd
  | .mv x | .box x | .nilchk x | .isnil _ _ x | .un _ x | .conv _ x | .mkif _ x | .faddr _ x | .fld _ _ _ x | .tassert _ _ _ x | .ext x _ | .len _ x | .rng x | .nxt x | .load _ _ x => [x]
  | .pick c a b => [c, a, b]
  | .build _ ps => ps.map fun p => p.2.2
  | .buildSl _ ps => ps
  | .store _ _ a x | .bin _ a x | .eq _ _ a x | .mksl _ _ a x | .iaddr _ a x | .iaddrA _ _ a x | .idxS a x | .idxA _ _ _ a x | .app _ _ _ a x => [a, x]
  | .mkfn _ a b => a ++ b
  | .slice _ x lo hi mx => x :: (optOpds lo ++ optOpds hi ++ optOpds mx)
  | .mn xs | .mx xs | .call _ xs => xs
  | .calld _ f xs | .inv _ f xs => f :: xs
  | .mapget _ _ m k => [m, k]
  | .mapput m k x => [m, k, x]
  | .alloc _ | .nilacc _ | .mkmap | .stuck => []

def opdReads : List VOpd → List Nat
  | [] => []
  | .t n :: l => n :: opdReads l
  | .c _ :: l => opdReads l

/-- The slots that an item reads. -/
def itReads (it : VIt) : List Nat := opdReads (vopds it.op) ++ (match it.g with | some (t, _) => [t] | none => [])

/-- Two items of which neither must come first, p the place of the first: they touch no slot of each other, and memory in ways that fit. -/
def pairOK (vp : VP) (p : Nat) (x y : VDt) : Bool :=
  clsFit (clsOf vp x.it.op) (clsOf vp y.it.op) &&
  (match clsOf vp x.it.op, clsOf vp y.it.op with | .ld, .wr => y.xl.contains p | _, _ => true) &&
  (match x.it.dst with | some d => !(itReads y.it).contains d && y.it.dst != some d | none => true) &&
  (match y.it.dst with | some d => !(itReads x.it).contains d | none => true)

/-- What the edges ask to be ahead, each of it done. -/
def dEdges (done : List (Nat × VDt)) : List Edge → Option Nat
  | [] => some 0
  | e :: es =>
    if Region.binds .any e then
      match done.find? (fun x => x.2.ix == e.on) with
      | some x => (dEdges done es).map fun m => m ||| 2 ^ e.on ||| x.2.bm
      | none => none
    else dEdges done es

def chkD (vp : VP) (ops : Array Oper) (nt : Nat) : Nat → List (Nat × VDt) → List VDt → Bool
  | _, _, [] => true
  | p, done, d :: r =>
    (done.all fun x => x.2.ix != d.ix) && d.ix < ops.size && chkIt P T ops nt (ops.getD d.ix default) d.it &&
    (dEdges done (ops.getD d.ix default).after.toList == some d.bm) &&
    (done.all fun x => d.bm.testBit x.2.ix || pairOK vp x.1 x.2 d) && chkD vp ops nt (p + 1) ((p, d) :: done) r

def drawOK (vp : VP) (ops : Array Oper) (nt : Nat) (ds : List VDt) : Bool :=
  chkD P T vp ops nt 0 [] ds && ((List.range ops.size).all fun i => ds.any fun d => d.ix == i)

def chkCode (vp : VP) (ntmps : Nat) : Code → VCode → Bool
  | .skip, .skip => true
  | .region _ ops false, .reg vs _ => chkIts P T ops ntmps ops.toList vs
  | .region _ ops true, .drw ds _ => drawOK P T vp ops ntmps ds
  | .seq a b, .seq a' b' => chkCode vp ntmps a a' && chkCode vp ntmps b b'
  | .cond c a b, .cond c' a' b' => chkOpd T c c' && chkCode vp ntmps a a' && chkCode vp ntmps b b'
  | .block i a, .blk i' a' => i == i' && chkCode vp ntmps a a'
  | .loop a, .loop _ a' => chkCode vp ntmps a a'
  | .exit i, .exit i' => i == i'
  | .ret, .ret => true
  | _, _ => false

def chkRes : List ResultVar → List VRes → Bool
  | [], [] => true
  | .tmp t :: l, .tmp t' :: r => t == t' && chkRes l r
  | .cell a t :: l, .cell a' agg n :: r => a == a' && isAggB P t == some agg && (if agg then szOf P t == some n else true) && chkRes l r
  | _, _ => false

/-- The function and its text. -/
def chkFunc (vp : VP) (fn : Func) (vf : VFunc) : Bool :=
  match fn.body with
  | some c => chkCode P T vp fn.ntmps c vf.body && chkRes P fn.results.toList vf.results && fn.name != "runtime.NumGoroutine"
  | none => false

def methOK (t : TypeId) (name : String) (f : FuncId) : Bool :=
  match (P.info? t).bind fun i => i.methods.find? (·.name == name) with
  | some m => m.path.isEmpty && (match m.func with | some (g, false) => g == f | _ => false) && isKind P (fun d => match d with | .pointer _ => false | _ => true) t
  | none => false

end
end Go.VE
