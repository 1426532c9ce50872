/- The program's plain types: how they lie as values. Printed by a program. -/
import Derived.Test.YtgkdconajdjkgaaGreatVeTyp
namespace Go.VE
set_option linter.unusedVariables false

/-- api.Vec -/
structure Vec where
  W : I64
  Hi : U64
  Lo : U64
def Vec.cs (x : Vec) : List VE.V := [.int .i64 x.W.n, .int .u64 x.Hi.n, .int .u64 x.Lo.n]
def Vec.v (x : Vec) : VE.V := .agg x.cs
theorem Vec.v_eq (x : Vec) : Vec.v x = .agg [.int .i64 x.W.n, .int .u64 x.Hi.n, .int .u64 x.Lo.n] := rfl
@[simp] theorem Vec.ld0 (x : Vec) : ldc (Vec.v x) false 1 0 = some (.int .i64 x.W.n) := rfl
@[simp] theorem Vec.ld1 (x : Vec) : ldc (Vec.v x) false 1 1 = some (.int .u64 x.Hi.n) := rfl
@[simp] theorem Vec.ld2 (x : Vec) : ldc (Vec.v x) false 1 2 = some (.int .u64 x.Lo.n) := rfl
@[simp] theorem Vec.ldw (x : Vec) : ldc (Vec.v x) true 3 0 = some (Vec.v x) := rfl
@[simp] theorem Vec.clen (x : Vec) : (Vec.v x).cells.length = 3 := nr rfl
@[simp] theorem Vec.ok (x : Vec) : okV (Vec.v x) = true := nr rfl
@[simp] theorem Vec.below (k : Nat) (x : Vec) : belowB k (Vec.v x) = true := by simp [Vec.v, Vec.cs, belowB, belowL]
@[simp] theorem Vec.closed (x : Vec) : closedB (Vec.v x) = true := by simp [Vec.v, Vec.cs, closedB, closedL]
@[simp] theorem Vec.stw {cs : List VE.V} (hl : cs.length = 3) (x : Vec) : stc (.agg cs) 3 0 (Vec.v x) = some (Vec.v x) := stc_whole hl rfl
@[simp] theorem Vec.stv (y x : Vec) : stc (Vec.v y) 3 0 (Vec.v x) = some (Vec.v x) := stc_whole rfl rfl

/-- api.Field -/
structure Field where
  Name : GS
  W : I64
def Field.cs (x : Field) : List VE.V := [.str x.Name.s, .int .i64 x.W.n]
def Field.v (x : Field) : VE.V := .agg x.cs
theorem Field.v_eq (x : Field) : Field.v x = .agg [.str x.Name.s, .int .i64 x.W.n] := rfl
@[simp] theorem Field.ld0 (x : Field) : ldc (Field.v x) false 1 0 = some (.str x.Name.s) := rfl
@[simp] theorem Field.ld1 (x : Field) : ldc (Field.v x) false 1 1 = some (.int .i64 x.W.n) := rfl
@[simp] theorem Field.ldw (x : Field) : ldc (Field.v x) true 2 0 = some (Field.v x) := rfl
@[simp] theorem Field.clen (x : Field) : (Field.v x).cells.length = 2 := nr rfl
@[simp] theorem Field.ok (x : Field) : okV (Field.v x) = true := nr rfl
@[simp] theorem Field.below (k : Nat) (x : Field) : belowB k (Field.v x) = true := by simp [Field.v, Field.cs, belowB, belowL]
@[simp] theorem Field.closed (x : Field) : closedB (Field.v x) = true := by simp [Field.v, Field.cs, closedB, closedL]
@[simp] theorem Field.stw {cs : List VE.V} (hl : cs.length = 2) (x : Field) : stc (.agg cs) 2 0 (Field.v x) = some (Field.v x) := stc_whole hl rfl
@[simp] theorem Field.stv (y x : Field) : stc (Field.v y) 2 0 (Field.v x) = some (Field.v x) := stc_whole rfl rfl

/-- api.Header -/
structure Header where
  Name : GS
  Fields : GL Field
  Var : I64
  By : I64
  Mul : I64
  Sub : I64
def Header.cs (x : Header) : List VE.V := [.str x.Name.s, GL.v 2 Field.v x.Fields, .int .i64 x.Var.n, .int .i64 x.By.n, .int .i64 x.Mul.n, .int .i64 x.Sub.n]
def Header.v (x : Header) : VE.V := .agg x.cs
theorem Header.v_eq (x : Header) : Header.v x = .agg [.str x.Name.s, GL.v 2 Field.v x.Fields, .int .i64 x.Var.n, .int .i64 x.By.n, .int .i64 x.Mul.n, .int .i64 x.Sub.n] := rfl
@[simp] theorem Header.ld0 (x : Header) : ldc (Header.v x) false 1 0 = some (.str x.Name.s) := rfl
@[simp] theorem Header.ld1 (x : Header) : ldc (Header.v x) false 1 1 = some (GL.v 2 Field.v x.Fields) := rfl
@[simp] theorem Header.ld2 (x : Header) : ldc (Header.v x) false 1 2 = some (.int .i64 x.Var.n) := rfl
@[simp] theorem Header.ld3 (x : Header) : ldc (Header.v x) false 1 3 = some (.int .i64 x.By.n) := rfl
@[simp] theorem Header.ld4 (x : Header) : ldc (Header.v x) false 1 4 = some (.int .i64 x.Mul.n) := rfl
@[simp] theorem Header.ld5 (x : Header) : ldc (Header.v x) false 1 5 = some (.int .i64 x.Sub.n) := rfl
@[simp] theorem Header.ldw (x : Header) : ldc (Header.v x) true 6 0 = some (Header.v x) := rfl
@[simp] theorem Header.clen (x : Header) : (Header.v x).cells.length = 6 := nr rfl
@[simp] theorem Header.ok (x : Header) : okV (Header.v x) = true := nr rfl
@[simp] theorem Header.below (k : Nat) (x : Header) : belowB k (Header.v x) = true := by simp [Header.v, Header.cs, belowB, belowL]
@[simp] theorem Header.closed (x : Header) : closedB (Header.v x) = (closedB (GL.v 2 Field.v x.Fields)) := by simp [Header.v, Header.cs, closedB, closedL]
@[simp] theorem Header.stw {cs : List VE.V} (hl : cs.length = 6) (x : Header) : stc (.agg cs) 6 0 (Header.v x) = some (Header.v x) := stc_whole hl rfl
@[simp] theorem Header.stv (y x : Header) : stc (Header.v y) 6 0 (Header.v x) = some (Header.v x) := stc_whole rfl rfl

/-- api.Inst -/
structure Inst where
  Name : GS
  Header : I64
  Depth : I64
def Inst.cs (x : Inst) : List VE.V := [.str x.Name.s, .int .i64 x.Header.n, .int .i64 x.Depth.n]
def Inst.v (x : Inst) : VE.V := .agg x.cs
theorem Inst.v_eq (x : Inst) : Inst.v x = .agg [.str x.Name.s, .int .i64 x.Header.n, .int .i64 x.Depth.n] := rfl
@[simp] theorem Inst.ld0 (x : Inst) : ldc (Inst.v x) false 1 0 = some (.str x.Name.s) := rfl
@[simp] theorem Inst.ld1 (x : Inst) : ldc (Inst.v x) false 1 1 = some (.int .i64 x.Header.n) := rfl
@[simp] theorem Inst.ld2 (x : Inst) : ldc (Inst.v x) false 1 2 = some (.int .i64 x.Depth.n) := rfl
@[simp] theorem Inst.ldw (x : Inst) : ldc (Inst.v x) true 3 0 = some (Inst.v x) := rfl
@[simp] theorem Inst.clen (x : Inst) : (Inst.v x).cells.length = 3 := nr rfl
@[simp] theorem Inst.ok (x : Inst) : okV (Inst.v x) = true := nr rfl
@[simp] theorem Inst.below (k : Nat) (x : Inst) : belowB k (Inst.v x) = true := by simp [Inst.v, Inst.cs, belowB, belowL]
@[simp] theorem Inst.closed (x : Inst) : closedB (Inst.v x) = true := by simp [Inst.v, Inst.cs, closedB, closedL]
@[simp] theorem Inst.stw {cs : List VE.V} (hl : cs.length = 3) (x : Inst) : stc (.agg cs) 3 0 (Inst.v x) = some (Inst.v x) := stc_whole hl rfl
@[simp] theorem Inst.stv (y x : Inst) : stc (Inst.v y) 3 0 (Inst.v x) = some (Inst.v x) := stc_whole rfl rfl

/-- api.Ins -/
structure Ins where
  Op : I64
  A : I64
  B : I64
  V : Vec
def Ins.cs (x : Ins) : List VE.V := [.int .i64 x.Op.n, .int .i64 x.A.n, .int .i64 x.B.n, .int .i64 x.V.W.n, .int .u64 x.V.Hi.n, .int .u64 x.V.Lo.n]
def Ins.v (x : Ins) : VE.V := .agg x.cs
theorem Ins.v_eq (x : Ins) : Ins.v x = .agg [.int .i64 x.Op.n, .int .i64 x.A.n, .int .i64 x.B.n, .int .i64 x.V.W.n, .int .u64 x.V.Hi.n, .int .u64 x.V.Lo.n] := rfl
@[simp] theorem Ins.ld0 (x : Ins) : ldc (Ins.v x) false 1 0 = some (.int .i64 x.Op.n) := rfl
@[simp] theorem Ins.ld1 (x : Ins) : ldc (Ins.v x) false 1 1 = some (.int .i64 x.A.n) := rfl
@[simp] theorem Ins.ld2 (x : Ins) : ldc (Ins.v x) false 1 2 = some (.int .i64 x.B.n) := rfl
@[simp] theorem Ins.ld3 (x : Ins) : ldc (Ins.v x) true 3 3 = some (Vec.v x.V) := rfl
@[simp] theorem Ins.ld4 (x : Ins) : ldc (Ins.v x) false 1 3 = some (.int .i64 x.V.W.n) := rfl
@[simp] theorem Ins.ld5 (x : Ins) : ldc (Ins.v x) false 1 4 = some (.int .u64 x.V.Hi.n) := rfl
@[simp] theorem Ins.ld6 (x : Ins) : ldc (Ins.v x) false 1 5 = some (.int .u64 x.V.Lo.n) := rfl
@[simp] theorem Ins.ldw (x : Ins) : ldc (Ins.v x) true 6 0 = some (Ins.v x) := rfl
@[simp] theorem Ins.clen (x : Ins) : (Ins.v x).cells.length = 6 := nr rfl
@[simp] theorem Ins.ok (x : Ins) : okV (Ins.v x) = true := nr rfl
@[simp] theorem Ins.below (k : Nat) (x : Ins) : belowB k (Ins.v x) = true := by simp [Ins.v, Ins.cs, belowB, belowL]
@[simp] theorem Ins.closed (x : Ins) : closedB (Ins.v x) = true := by simp [Ins.v, Ins.cs, closedB, closedL]
@[simp] theorem Ins.stw {cs : List VE.V} (hl : cs.length = 6) (x : Ins) : stc (.agg cs) 6 0 (Ins.v x) = some (Ins.v x) := stc_whole hl rfl
@[simp] theorem Ins.stv (y x : Ins) : stc (Ins.v y) 6 0 (Ins.v x) = some (Ins.v x) := stc_whole rfl rfl

/-- api.Action -/
structure Action where
  Name : GS
  Params : GL I64
  Code : GL Ins
def Action.cs (x : Action) : List VE.V := [.str x.Name.s, GL.v 1 I64.v x.Params, GL.v 6 Ins.v x.Code]
def Action.v (x : Action) : VE.V := .agg x.cs
theorem Action.v_eq (x : Action) : Action.v x = .agg [.str x.Name.s, GL.v 1 I64.v x.Params, GL.v 6 Ins.v x.Code] := rfl
@[simp] theorem Action.ld0 (x : Action) : ldc (Action.v x) false 1 0 = some (.str x.Name.s) := rfl
@[simp] theorem Action.ld1 (x : Action) : ldc (Action.v x) false 1 1 = some (GL.v 1 I64.v x.Params) := rfl
@[simp] theorem Action.ld2 (x : Action) : ldc (Action.v x) false 1 2 = some (GL.v 6 Ins.v x.Code) := rfl
@[simp] theorem Action.ldw (x : Action) : ldc (Action.v x) true 3 0 = some (Action.v x) := rfl
@[simp] theorem Action.clen (x : Action) : (Action.v x).cells.length = 3 := nr rfl
@[simp] theorem Action.ok (x : Action) : okV (Action.v x) = true := nr rfl
@[simp] theorem Action.below (k : Nat) (x : Action) : belowB k (Action.v x) = true := by simp [Action.v, Action.cs, belowB, belowL]
@[simp] theorem Action.closed (x : Action) : closedB (Action.v x) = (closedB (GL.v 1 I64.v x.Params) && closedB (GL.v 6 Ins.v x.Code)) := by simp [Action.v, Action.cs, closedB, closedL]
@[simp] theorem Action.stw {cs : List VE.V} (hl : cs.length = 3) (x : Action) : stc (.agg cs) 3 0 (Action.v x) = some (Action.v x) := stc_whole hl rfl
@[simp] theorem Action.stv (y x : Action) : stc (Action.v y) 3 0 (Action.v x) = some (Action.v x) := stc_whole rfl rfl

/-- api.Call -/
structure Call where
  Action : I64
  Args : GL Vec
def Call.cs (x : Call) : List VE.V := [.int .i64 x.Action.n, GL.v 3 Vec.v x.Args]
def Call.v (x : Call) : VE.V := .agg x.cs
theorem Call.v_eq (x : Call) : Call.v x = .agg [.int .i64 x.Action.n, GL.v 3 Vec.v x.Args] := rfl
@[simp] theorem Call.ld0 (x : Call) : ldc (Call.v x) false 1 0 = some (.int .i64 x.Action.n) := rfl
@[simp] theorem Call.ld1 (x : Call) : ldc (Call.v x) false 1 1 = some (GL.v 3 Vec.v x.Args) := rfl
@[simp] theorem Call.ldw (x : Call) : ldc (Call.v x) true 2 0 = some (Call.v x) := rfl
@[simp] theorem Call.clen (x : Call) : (Call.v x).cells.length = 2 := nr rfl
@[simp] theorem Call.ok (x : Call) : okV (Call.v x) = true := nr rfl
@[simp] theorem Call.below (k : Nat) (x : Call) : belowB k (Call.v x) = true := by simp [Call.v, Call.cs, belowB, belowL]
@[simp] theorem Call.closed (x : Call) : closedB (Call.v x) = (closedB (GL.v 3 Vec.v x.Args)) := by simp [Call.v, Call.cs, closedB, closedL]
@[simp] theorem Call.stw {cs : List VE.V} (hl : cs.length = 2) (x : Call) : stc (.agg cs) 2 0 (Call.v x) = some (Call.v x) := stc_whole hl rfl
@[simp] theorem Call.stv (y x : Call) : stc (Call.v y) 2 0 (Call.v x) = some (Call.v x) := stc_whole rfl rfl

/-- api.Key -/
structure Key where
  Kind : I64
  A : I64
  B : I64
def Key.cs (x : Key) : List VE.V := [.int .i64 x.Kind.n, .int .i64 x.A.n, .int .i64 x.B.n]
def Key.v (x : Key) : VE.V := .agg x.cs
theorem Key.v_eq (x : Key) : Key.v x = .agg [.int .i64 x.Kind.n, .int .i64 x.A.n, .int .i64 x.B.n] := rfl
@[simp] theorem Key.ld0 (x : Key) : ldc (Key.v x) false 1 0 = some (.int .i64 x.Kind.n) := rfl
@[simp] theorem Key.ld1 (x : Key) : ldc (Key.v x) false 1 1 = some (.int .i64 x.A.n) := rfl
@[simp] theorem Key.ld2 (x : Key) : ldc (Key.v x) false 1 2 = some (.int .i64 x.B.n) := rfl
@[simp] theorem Key.ldw (x : Key) : ldc (Key.v x) true 3 0 = some (Key.v x) := rfl
@[simp] theorem Key.clen (x : Key) : (Key.v x).cells.length = 3 := nr rfl
@[simp] theorem Key.ok (x : Key) : okV (Key.v x) = true := nr rfl
@[simp] theorem Key.below (k : Nat) (x : Key) : belowB k (Key.v x) = true := by simp [Key.v, Key.cs, belowB, belowL]
@[simp] theorem Key.closed (x : Key) : closedB (Key.v x) = true := by simp [Key.v, Key.cs, closedB, closedL]
@[simp] theorem Key.stw {cs : List VE.V} (hl : cs.length = 3) (x : Key) : stc (.agg cs) 3 0 (Key.v x) = some (Key.v x) := stc_whole hl rfl
@[simp] theorem Key.stv (y x : Key) : stc (Key.v y) 3 0 (Key.v x) = some (Key.v x) := stc_whole rfl rfl

/-- api.Case -/
structure Case where
  Value : Vec
  Mask : Vec
  Next : I64
def Case.cs (x : Case) : List VE.V := [.int .i64 x.Value.W.n, .int .u64 x.Value.Hi.n, .int .u64 x.Value.Lo.n, .int .i64 x.Mask.W.n, .int .u64 x.Mask.Hi.n, .int .u64 x.Mask.Lo.n, .int .i64 x.Next.n]
def Case.v (x : Case) : VE.V := .agg x.cs
theorem Case.v_eq (x : Case) : Case.v x = .agg [.int .i64 x.Value.W.n, .int .u64 x.Value.Hi.n, .int .u64 x.Value.Lo.n, .int .i64 x.Mask.W.n, .int .u64 x.Mask.Hi.n, .int .u64 x.Mask.Lo.n, .int .i64 x.Next.n] := rfl
@[simp] theorem Case.ld0 (x : Case) : ldc (Case.v x) true 3 0 = some (Vec.v x.Value) := rfl
@[simp] theorem Case.ld1 (x : Case) : ldc (Case.v x) false 1 0 = some (.int .i64 x.Value.W.n) := rfl
@[simp] theorem Case.ld2 (x : Case) : ldc (Case.v x) false 1 1 = some (.int .u64 x.Value.Hi.n) := rfl
@[simp] theorem Case.ld3 (x : Case) : ldc (Case.v x) false 1 2 = some (.int .u64 x.Value.Lo.n) := rfl
@[simp] theorem Case.ld4 (x : Case) : ldc (Case.v x) true 3 3 = some (Vec.v x.Mask) := rfl
@[simp] theorem Case.ld5 (x : Case) : ldc (Case.v x) false 1 3 = some (.int .i64 x.Mask.W.n) := rfl
@[simp] theorem Case.ld6 (x : Case) : ldc (Case.v x) false 1 4 = some (.int .u64 x.Mask.Hi.n) := rfl
@[simp] theorem Case.ld7 (x : Case) : ldc (Case.v x) false 1 5 = some (.int .u64 x.Mask.Lo.n) := rfl
@[simp] theorem Case.ld8 (x : Case) : ldc (Case.v x) false 1 6 = some (.int .i64 x.Next.n) := rfl
@[simp] theorem Case.ldw (x : Case) : ldc (Case.v x) true 7 0 = some (Case.v x) := rfl
@[simp] theorem Case.clen (x : Case) : (Case.v x).cells.length = 7 := nr rfl
@[simp] theorem Case.ok (x : Case) : okV (Case.v x) = true := nr rfl
@[simp] theorem Case.below (k : Nat) (x : Case) : belowB k (Case.v x) = true := by simp [Case.v, Case.cs, belowB, belowL]
@[simp] theorem Case.closed (x : Case) : closedB (Case.v x) = true := by simp [Case.v, Case.cs, closedB, closedL]
@[simp] theorem Case.stw {cs : List VE.V} (hl : cs.length = 7) (x : Case) : stc (.agg cs) 7 0 (Case.v x) = some (Case.v x) := stc_whole hl rfl
@[simp] theorem Case.stv (y x : Case) : stc (Case.v y) 7 0 (Case.v x) = some (Case.v x) := stc_whole rfl rfl

/-- api.Ext -/
structure Ext where
  Kind : I64
  N : I64
def Ext.cs (x : Ext) : List VE.V := [.int .i64 x.Kind.n, .int .i64 x.N.n]
def Ext.v (x : Ext) : VE.V := .agg x.cs
theorem Ext.v_eq (x : Ext) : Ext.v x = .agg [.int .i64 x.Kind.n, .int .i64 x.N.n] := rfl
@[simp] theorem Ext.ld0 (x : Ext) : ldc (Ext.v x) false 1 0 = some (.int .i64 x.Kind.n) := rfl
@[simp] theorem Ext.ld1 (x : Ext) : ldc (Ext.v x) false 1 1 = some (.int .i64 x.N.n) := rfl
@[simp] theorem Ext.ldw (x : Ext) : ldc (Ext.v x) true 2 0 = some (Ext.v x) := rfl
@[simp] theorem Ext.clen (x : Ext) : (Ext.v x).cells.length = 2 := nr rfl
@[simp] theorem Ext.ok (x : Ext) : okV (Ext.v x) = true := nr rfl
@[simp] theorem Ext.below (k : Nat) (x : Ext) : belowB k (Ext.v x) = true := by simp [Ext.v, Ext.cs, belowB, belowL]
@[simp] theorem Ext.closed (x : Ext) : closedB (Ext.v x) = true := by simp [Ext.v, Ext.cs, closedB, closedL]
@[simp] theorem Ext.stw {cs : List VE.V} (hl : cs.length = 2) (x : Ext) : stc (.agg cs) 2 0 (Ext.v x) = some (Ext.v x) := stc_whole hl rfl
@[simp] theorem Ext.stv (y x : Ext) : stc (Ext.v y) 2 0 (Ext.v x) = some (Ext.v x) := stc_whole rfl rfl

/-- api.State -/
structure State where
  Name : GS
  Exts : GL Ext
  Keys : GL Key
  Cases : GL Case
  Next : I64
def State.cs (x : State) : List VE.V := [.str x.Name.s, GL.v 2 Ext.v x.Exts, GL.v 3 Key.v x.Keys, GL.v 7 Case.v x.Cases, .int .i64 x.Next.n]
def State.v (x : State) : VE.V := .agg x.cs
theorem State.v_eq (x : State) : State.v x = .agg [.str x.Name.s, GL.v 2 Ext.v x.Exts, GL.v 3 Key.v x.Keys, GL.v 7 Case.v x.Cases, .int .i64 x.Next.n] := rfl
@[simp] theorem State.ld0 (x : State) : ldc (State.v x) false 1 0 = some (.str x.Name.s) := rfl
@[simp] theorem State.ld1 (x : State) : ldc (State.v x) false 1 1 = some (GL.v 2 Ext.v x.Exts) := rfl
@[simp] theorem State.ld2 (x : State) : ldc (State.v x) false 1 2 = some (GL.v 3 Key.v x.Keys) := rfl
@[simp] theorem State.ld3 (x : State) : ldc (State.v x) false 1 3 = some (GL.v 7 Case.v x.Cases) := rfl
@[simp] theorem State.ld4 (x : State) : ldc (State.v x) false 1 4 = some (.int .i64 x.Next.n) := rfl
@[simp] theorem State.ldw (x : State) : ldc (State.v x) true 5 0 = some (State.v x) := rfl
@[simp] theorem State.clen (x : State) : (State.v x).cells.length = 5 := nr rfl
@[simp] theorem State.ok (x : State) : okV (State.v x) = true := nr rfl
@[simp] theorem State.below (k : Nat) (x : State) : belowB k (State.v x) = true := by simp [State.v, State.cs, belowB, belowL]
@[simp] theorem State.closed (x : State) : closedB (State.v x) = (closedB (GL.v 2 Ext.v x.Exts) && closedB (GL.v 3 Key.v x.Keys) && closedB (GL.v 7 Case.v x.Cases)) := by simp [State.v, State.cs, closedB, closedL, Bool.and_assoc]
@[simp] theorem State.stw {cs : List VE.V} (hl : cs.length = 5) (x : State) : stc (.agg cs) 5 0 (State.v x) = some (State.v x) := stc_whole hl rfl
@[simp] theorem State.stv (y x : State) : stc (State.v y) 5 0 (State.v x) = some (State.v x) := stc_whole rfl rfl

/-- api.Table -/
structure Table where
  Name : GS
  Kind : I64
  Keys : GL Key
  Actions : GL I64
  Default : Call
  Size : I64
def Table.cs (x : Table) : List VE.V := [.str x.Name.s, .int .i64 x.Kind.n, GL.v 3 Key.v x.Keys, GL.v 1 I64.v x.Actions, .int .i64 x.Default.Action.n, GL.v 3 Vec.v x.Default.Args, .int .i64 x.Size.n]
def Table.v (x : Table) : VE.V := .agg x.cs
theorem Table.v_eq (x : Table) : Table.v x = .agg [.str x.Name.s, .int .i64 x.Kind.n, GL.v 3 Key.v x.Keys, GL.v 1 I64.v x.Actions, .int .i64 x.Default.Action.n, GL.v 3 Vec.v x.Default.Args, .int .i64 x.Size.n] := rfl
@[simp] theorem Table.ld0 (x : Table) : ldc (Table.v x) false 1 0 = some (.str x.Name.s) := rfl
@[simp] theorem Table.ld1 (x : Table) : ldc (Table.v x) false 1 1 = some (.int .i64 x.Kind.n) := rfl
@[simp] theorem Table.ld2 (x : Table) : ldc (Table.v x) false 1 2 = some (GL.v 3 Key.v x.Keys) := rfl
@[simp] theorem Table.ld3 (x : Table) : ldc (Table.v x) false 1 3 = some (GL.v 1 I64.v x.Actions) := rfl
@[simp] theorem Table.ld4 (x : Table) : ldc (Table.v x) true 2 4 = some (Call.v x.Default) := rfl
@[simp] theorem Table.ld5 (x : Table) : ldc (Table.v x) false 1 4 = some (.int .i64 x.Default.Action.n) := rfl
@[simp] theorem Table.ld6 (x : Table) : ldc (Table.v x) false 1 5 = some (GL.v 3 Vec.v x.Default.Args) := rfl
@[simp] theorem Table.ld7 (x : Table) : ldc (Table.v x) false 1 6 = some (.int .i64 x.Size.n) := rfl
@[simp] theorem Table.ldw (x : Table) : ldc (Table.v x) true 7 0 = some (Table.v x) := rfl
@[simp] theorem Table.clen (x : Table) : (Table.v x).cells.length = 7 := nr rfl
@[simp] theorem Table.ok (x : Table) : okV (Table.v x) = true := nr rfl
@[simp] theorem Table.below (k : Nat) (x : Table) : belowB k (Table.v x) = true := by simp [Table.v, Table.cs, belowB, belowL]
@[simp] theorem Table.closed (x : Table) : closedB (Table.v x) = (closedB (GL.v 3 Key.v x.Keys) && closedB (GL.v 1 I64.v x.Actions) && closedB (GL.v 3 Vec.v x.Default.Args)) := by simp [Table.v, Table.cs, closedB, closedL, Bool.and_assoc]
@[simp] theorem Table.stw {cs : List VE.V} (hl : cs.length = 7) (x : Table) : stc (.agg cs) 7 0 (Table.v x) = some (Table.v x) := stc_whole hl rfl
@[simp] theorem Table.stv (y x : Table) : stc (Table.v y) 7 0 (Table.v x) = some (Table.v x) := stc_whole rfl rfl

/-- api.Node -/
structure Node where
  Kind : I64
  A : I64
  Code : GL Ins
  Args : GL Vec
  Yes : I64
  No : I64
def Node.cs (x : Node) : List VE.V := [.int .i64 x.Kind.n, .int .i64 x.A.n, GL.v 6 Ins.v x.Code, GL.v 3 Vec.v x.Args, .int .i64 x.Yes.n, .int .i64 x.No.n]
def Node.v (x : Node) : VE.V := .agg x.cs
theorem Node.v_eq (x : Node) : Node.v x = .agg [.int .i64 x.Kind.n, .int .i64 x.A.n, GL.v 6 Ins.v x.Code, GL.v 3 Vec.v x.Args, .int .i64 x.Yes.n, .int .i64 x.No.n] := rfl
@[simp] theorem Node.ld0 (x : Node) : ldc (Node.v x) false 1 0 = some (.int .i64 x.Kind.n) := rfl
@[simp] theorem Node.ld1 (x : Node) : ldc (Node.v x) false 1 1 = some (.int .i64 x.A.n) := rfl
@[simp] theorem Node.ld2 (x : Node) : ldc (Node.v x) false 1 2 = some (GL.v 6 Ins.v x.Code) := rfl
@[simp] theorem Node.ld3 (x : Node) : ldc (Node.v x) false 1 3 = some (GL.v 3 Vec.v x.Args) := rfl
@[simp] theorem Node.ld4 (x : Node) : ldc (Node.v x) false 1 4 = some (.int .i64 x.Yes.n) := rfl
@[simp] theorem Node.ld5 (x : Node) : ldc (Node.v x) false 1 5 = some (.int .i64 x.No.n) := rfl
@[simp] theorem Node.ldw (x : Node) : ldc (Node.v x) true 6 0 = some (Node.v x) := rfl
@[simp] theorem Node.clen (x : Node) : (Node.v x).cells.length = 6 := nr rfl
@[simp] theorem Node.ok (x : Node) : okV (Node.v x) = true := nr rfl
@[simp] theorem Node.below (k : Nat) (x : Node) : belowB k (Node.v x) = true := by simp [Node.v, Node.cs, belowB, belowL]
@[simp] theorem Node.closed (x : Node) : closedB (Node.v x) = (closedB (GL.v 6 Ins.v x.Code) && closedB (GL.v 3 Vec.v x.Args)) := by simp [Node.v, Node.cs, closedB, closedL]
@[simp] theorem Node.stw {cs : List VE.V} (hl : cs.length = 6) (x : Node) : stc (.agg cs) 6 0 (Node.v x) = some (Node.v x) := stc_whole hl rfl
@[simp] theorem Node.stv (y x : Node) : stc (Node.v y) 6 0 (Node.v x) = some (Node.v x) := stc_whole rfl rfl

/-- api.Sum -/
structure CSum where
  Slot : I64
  Field : I64
def CSum.cs (x : CSum) : List VE.V := [.int .i64 x.Slot.n, .int .i64 x.Field.n]
def CSum.v (x : CSum) : VE.V := .agg x.cs
theorem CSum.v_eq (x : CSum) : CSum.v x = .agg [.int .i64 x.Slot.n, .int .i64 x.Field.n] := rfl
@[simp] theorem CSum.ld0 (x : CSum) : ldc (CSum.v x) false 1 0 = some (.int .i64 x.Slot.n) := rfl
@[simp] theorem CSum.ld1 (x : CSum) : ldc (CSum.v x) false 1 1 = some (.int .i64 x.Field.n) := rfl
@[simp] theorem CSum.ldw (x : CSum) : ldc (CSum.v x) true 2 0 = some (CSum.v x) := rfl
@[simp] theorem CSum.clen (x : CSum) : (CSum.v x).cells.length = 2 := nr rfl
@[simp] theorem CSum.ok (x : CSum) : okV (CSum.v x) = true := nr rfl
@[simp] theorem CSum.below (k : Nat) (x : CSum) : belowB k (CSum.v x) = true := by simp [CSum.v, CSum.cs, belowB, belowL]
@[simp] theorem CSum.closed (x : CSum) : closedB (CSum.v x) = true := by simp [CSum.v, CSum.cs, closedB, closedL]
@[simp] theorem CSum.stw {cs : List VE.V} (hl : cs.length = 2) (x : CSum) : stc (.agg cs) 2 0 (CSum.v x) = some (CSum.v x) := stc_whole hl rfl
@[simp] theorem CSum.stv (y x : CSum) : stc (CSum.v y) 2 0 (CSum.v x) = some (CSum.v x) := stc_whole rfl rfl

/-- api.Reg -/
structure Reg where
  Name : GS
  W : I64
  Log : I64
def Reg.cs (x : Reg) : List VE.V := [.str x.Name.s, .int .i64 x.W.n, .int .i64 x.Log.n]
def Reg.v (x : Reg) : VE.V := .agg x.cs
theorem Reg.v_eq (x : Reg) : Reg.v x = .agg [.str x.Name.s, .int .i64 x.W.n, .int .i64 x.Log.n] := rfl
@[simp] theorem Reg.ld0 (x : Reg) : ldc (Reg.v x) false 1 0 = some (.str x.Name.s) := rfl
@[simp] theorem Reg.ld1 (x : Reg) : ldc (Reg.v x) false 1 1 = some (.int .i64 x.W.n) := rfl
@[simp] theorem Reg.ld2 (x : Reg) : ldc (Reg.v x) false 1 2 = some (.int .i64 x.Log.n) := rfl
@[simp] theorem Reg.ldw (x : Reg) : ldc (Reg.v x) true 3 0 = some (Reg.v x) := rfl
@[simp] theorem Reg.clen (x : Reg) : (Reg.v x).cells.length = 3 := nr rfl
@[simp] theorem Reg.ok (x : Reg) : okV (Reg.v x) = true := nr rfl
@[simp] theorem Reg.below (k : Nat) (x : Reg) : belowB k (Reg.v x) = true := by simp [Reg.v, Reg.cs, belowB, belowL]
@[simp] theorem Reg.closed (x : Reg) : closedB (Reg.v x) = true := by simp [Reg.v, Reg.cs, closedB, closedL]
@[simp] theorem Reg.stw {cs : List VE.V} (hl : cs.length = 3) (x : Reg) : stc (.agg cs) 3 0 (Reg.v x) = some (Reg.v x) := stc_whole hl rfl
@[simp] theorem Reg.stv (y x : Reg) : stc (Reg.v y) 3 0 (Reg.v x) = some (Reg.v x) := stc_whole rfl rfl

/-- api.Counter -/
structure Counter where
  Name : GS
  Log : I64
def Counter.cs (x : Counter) : List VE.V := [.str x.Name.s, .int .i64 x.Log.n]
def Counter.v (x : Counter) : VE.V := .agg x.cs
theorem Counter.v_eq (x : Counter) : Counter.v x = .agg [.str x.Name.s, .int .i64 x.Log.n] := rfl
@[simp] theorem Counter.ld0 (x : Counter) : ldc (Counter.v x) false 1 0 = some (.str x.Name.s) := rfl
@[simp] theorem Counter.ld1 (x : Counter) : ldc (Counter.v x) false 1 1 = some (.int .i64 x.Log.n) := rfl
@[simp] theorem Counter.ldw (x : Counter) : ldc (Counter.v x) true 2 0 = some (Counter.v x) := rfl
@[simp] theorem Counter.clen (x : Counter) : (Counter.v x).cells.length = 2 := nr rfl
@[simp] theorem Counter.ok (x : Counter) : okV (Counter.v x) = true := nr rfl
@[simp] theorem Counter.below (k : Nat) (x : Counter) : belowB k (Counter.v x) = true := by simp [Counter.v, Counter.cs, belowB, belowL]
@[simp] theorem Counter.closed (x : Counter) : closedB (Counter.v x) = true := by simp [Counter.v, Counter.cs, closedB, closedL]
@[simp] theorem Counter.stw {cs : List VE.V} (hl : cs.length = 2) (x : Counter) : stc (.agg cs) 2 0 (Counter.v x) = some (Counter.v x) := stc_whole hl rfl
@[simp] theorem Counter.stv (y x : Counter) : stc (Counter.v y) 2 0 (Counter.v x) = some (Counter.v x) := stc_whole rfl rfl

/-- api.Meter -/
structure Meter where
  Name : GS
  Log : I64
  Rate : I64
  Burst : I64
def Meter.cs (x : Meter) : List VE.V := [.str x.Name.s, .int .i64 x.Log.n, .int .i64 x.Rate.n, .int .i64 x.Burst.n]
def Meter.v (x : Meter) : VE.V := .agg x.cs
theorem Meter.v_eq (x : Meter) : Meter.v x = .agg [.str x.Name.s, .int .i64 x.Log.n, .int .i64 x.Rate.n, .int .i64 x.Burst.n] := rfl
@[simp] theorem Meter.ld0 (x : Meter) : ldc (Meter.v x) false 1 0 = some (.str x.Name.s) := rfl
@[simp] theorem Meter.ld1 (x : Meter) : ldc (Meter.v x) false 1 1 = some (.int .i64 x.Log.n) := rfl
@[simp] theorem Meter.ld2 (x : Meter) : ldc (Meter.v x) false 1 2 = some (.int .i64 x.Rate.n) := rfl
@[simp] theorem Meter.ld3 (x : Meter) : ldc (Meter.v x) false 1 3 = some (.int .i64 x.Burst.n) := rfl
@[simp] theorem Meter.ldw (x : Meter) : ldc (Meter.v x) true 4 0 = some (Meter.v x) := rfl
@[simp] theorem Meter.clen (x : Meter) : (Meter.v x).cells.length = 4 := nr rfl
@[simp] theorem Meter.ok (x : Meter) : okV (Meter.v x) = true := nr rfl
@[simp] theorem Meter.below (k : Nat) (x : Meter) : belowB k (Meter.v x) = true := by simp [Meter.v, Meter.cs, belowB, belowL]
@[simp] theorem Meter.closed (x : Meter) : closedB (Meter.v x) = true := by simp [Meter.v, Meter.cs, closedB, closedL]
@[simp] theorem Meter.stw {cs : List VE.V} (hl : cs.length = 4) (x : Meter) : stc (.agg cs) 4 0 (Meter.v x) = some (Meter.v x) := stc_whole hl rfl
@[simp] theorem Meter.stv (y x : Meter) : stc (Meter.v y) 4 0 (Meter.v x) = some (Meter.v x) := stc_whole rfl rfl

/-- api.Image -/
structure Image where
  Name : GS
  Headers : GL Header
  Insts : GL Inst
  Metas : GL Field
  States : GL State
  Actions : GL Action
  Tables : GL Table
  Ingress : GL Node
  Egress : GL Node
  Deparse : GL I64
  Checks : GL CSum
  Updates : GL CSum
  Regs : GL Reg
  Counters : GL Counter
  Meters : GL Meter
  Ports : I64
  Depth : I64
  Rounds : I64
def Image.cs (x : Image) : List VE.V := [.str x.Name.s, GL.v 6 Header.v x.Headers, GL.v 3 Inst.v x.Insts, GL.v 2 Field.v x.Metas, GL.v 5 State.v x.States, GL.v 3 Action.v x.Actions, GL.v 7 Table.v x.Tables, GL.v 6 Node.v x.Ingress, GL.v 6 Node.v x.Egress, GL.v 1 I64.v x.Deparse, GL.v 2 CSum.v x.Checks, GL.v 2 CSum.v x.Updates, GL.v 3 Reg.v x.Regs, GL.v 2 Counter.v x.Counters, GL.v 4 Meter.v x.Meters, .int .i64 x.Ports.n, .int .i64 x.Depth.n, .int .i64 x.Rounds.n]
def Image.v (x : Image) : VE.V := .agg x.cs
theorem Image.v_eq (x : Image) : Image.v x = .agg [.str x.Name.s, GL.v 6 Header.v x.Headers, GL.v 3 Inst.v x.Insts, GL.v 2 Field.v x.Metas, GL.v 5 State.v x.States, GL.v 3 Action.v x.Actions, GL.v 7 Table.v x.Tables, GL.v 6 Node.v x.Ingress, GL.v 6 Node.v x.Egress, GL.v 1 I64.v x.Deparse, GL.v 2 CSum.v x.Checks, GL.v 2 CSum.v x.Updates, GL.v 3 Reg.v x.Regs, GL.v 2 Counter.v x.Counters, GL.v 4 Meter.v x.Meters, .int .i64 x.Ports.n, .int .i64 x.Depth.n, .int .i64 x.Rounds.n] := rfl
@[simp] theorem Image.ld0 (x : Image) : ldc (Image.v x) false 1 0 = some (.str x.Name.s) := rfl
@[simp] theorem Image.ld1 (x : Image) : ldc (Image.v x) false 1 1 = some (GL.v 6 Header.v x.Headers) := rfl
@[simp] theorem Image.ld2 (x : Image) : ldc (Image.v x) false 1 2 = some (GL.v 3 Inst.v x.Insts) := rfl
@[simp] theorem Image.ld3 (x : Image) : ldc (Image.v x) false 1 3 = some (GL.v 2 Field.v x.Metas) := rfl
@[simp] theorem Image.ld4 (x : Image) : ldc (Image.v x) false 1 4 = some (GL.v 5 State.v x.States) := rfl
@[simp] theorem Image.ld5 (x : Image) : ldc (Image.v x) false 1 5 = some (GL.v 3 Action.v x.Actions) := rfl
@[simp] theorem Image.ld6 (x : Image) : ldc (Image.v x) false 1 6 = some (GL.v 7 Table.v x.Tables) := rfl
@[simp] theorem Image.ld7 (x : Image) : ldc (Image.v x) false 1 7 = some (GL.v 6 Node.v x.Ingress) := rfl
@[simp] theorem Image.ld8 (x : Image) : ldc (Image.v x) false 1 8 = some (GL.v 6 Node.v x.Egress) := rfl
@[simp] theorem Image.ld9 (x : Image) : ldc (Image.v x) false 1 9 = some (GL.v 1 I64.v x.Deparse) := rfl
@[simp] theorem Image.ld10 (x : Image) : ldc (Image.v x) false 1 10 = some (GL.v 2 CSum.v x.Checks) := rfl
@[simp] theorem Image.ld11 (x : Image) : ldc (Image.v x) false 1 11 = some (GL.v 2 CSum.v x.Updates) := rfl
@[simp] theorem Image.ld12 (x : Image) : ldc (Image.v x) false 1 12 = some (GL.v 3 Reg.v x.Regs) := rfl
@[simp] theorem Image.ld13 (x : Image) : ldc (Image.v x) false 1 13 = some (GL.v 2 Counter.v x.Counters) := rfl
@[simp] theorem Image.ld14 (x : Image) : ldc (Image.v x) false 1 14 = some (GL.v 4 Meter.v x.Meters) := rfl
@[simp] theorem Image.ld15 (x : Image) : ldc (Image.v x) false 1 15 = some (.int .i64 x.Ports.n) := rfl
@[simp] theorem Image.ld16 (x : Image) : ldc (Image.v x) false 1 16 = some (.int .i64 x.Depth.n) := rfl
@[simp] theorem Image.ld17 (x : Image) : ldc (Image.v x) false 1 17 = some (.int .i64 x.Rounds.n) := rfl
@[simp] theorem Image.ldw (x : Image) : ldc (Image.v x) true 18 0 = some (Image.v x) := rfl
@[simp] theorem Image.clen (x : Image) : (Image.v x).cells.length = 18 := nr rfl
@[simp] theorem Image.ok (x : Image) : okV (Image.v x) = true := nr rfl
@[simp] theorem Image.below (k : Nat) (x : Image) : belowB k (Image.v x) = true := by simp [Image.v, Image.cs, belowB, belowL]
@[simp] theorem Image.closed (x : Image) : closedB (Image.v x) = (closedB (GL.v 6 Header.v x.Headers) && closedB (GL.v 3 Inst.v x.Insts) && closedB (GL.v 2 Field.v x.Metas) && closedB (GL.v 5 State.v x.States) && closedB (GL.v 3 Action.v x.Actions) && closedB (GL.v 7 Table.v x.Tables) && closedB (GL.v 6 Node.v x.Ingress) && closedB (GL.v 6 Node.v x.Egress) && closedB (GL.v 1 I64.v x.Deparse) && closedB (GL.v 2 CSum.v x.Checks) && closedB (GL.v 2 CSum.v x.Updates) && closedB (GL.v 3 Reg.v x.Regs) && closedB (GL.v 2 Counter.v x.Counters) && closedB (GL.v 4 Meter.v x.Meters)) := by simp [Image.v, Image.cs, closedB, closedL, Bool.and_assoc]
@[simp] theorem Image.stw {cs : List VE.V} (hl : cs.length = 18) (x : Image) : stc (.agg cs) 18 0 (Image.v x) = some (Image.v x) := stc_whole hl rfl
@[simp] theorem Image.stv (y x : Image) : stc (Image.v y) 18 0 (Image.v x) = some (Image.v x) := stc_whole rfl rfl

/-- api.Entry -/
structure Entry where
  Values : GL Vec
  Masks : GL Vec
  Len : I64
  Prio : I64
  Call : Call
def Entry.cs (x : Entry) : List VE.V := [GL.v 3 Vec.v x.Values, GL.v 3 Vec.v x.Masks, .int .i64 x.Len.n, .int .i64 x.Prio.n, .int .i64 x.Call.Action.n, GL.v 3 Vec.v x.Call.Args]
def Entry.v (x : Entry) : VE.V := .agg x.cs
theorem Entry.v_eq (x : Entry) : Entry.v x = .agg [GL.v 3 Vec.v x.Values, GL.v 3 Vec.v x.Masks, .int .i64 x.Len.n, .int .i64 x.Prio.n, .int .i64 x.Call.Action.n, GL.v 3 Vec.v x.Call.Args] := rfl
@[simp] theorem Entry.ld0 (x : Entry) : ldc (Entry.v x) false 1 0 = some (GL.v 3 Vec.v x.Values) := rfl
@[simp] theorem Entry.ld1 (x : Entry) : ldc (Entry.v x) false 1 1 = some (GL.v 3 Vec.v x.Masks) := rfl
@[simp] theorem Entry.ld2 (x : Entry) : ldc (Entry.v x) false 1 2 = some (.int .i64 x.Len.n) := rfl
@[simp] theorem Entry.ld3 (x : Entry) : ldc (Entry.v x) false 1 3 = some (.int .i64 x.Prio.n) := rfl
@[simp] theorem Entry.ld4 (x : Entry) : ldc (Entry.v x) true 2 4 = some (Call.v x.Call) := rfl
@[simp] theorem Entry.ld5 (x : Entry) : ldc (Entry.v x) false 1 4 = some (.int .i64 x.Call.Action.n) := rfl
@[simp] theorem Entry.ld6 (x : Entry) : ldc (Entry.v x) false 1 5 = some (GL.v 3 Vec.v x.Call.Args) := rfl
@[simp] theorem Entry.ldw (x : Entry) : ldc (Entry.v x) true 6 0 = some (Entry.v x) := rfl
@[simp] theorem Entry.clen (x : Entry) : (Entry.v x).cells.length = 6 := nr rfl
@[simp] theorem Entry.ok (x : Entry) : okV (Entry.v x) = true := nr rfl
@[simp] theorem Entry.below (k : Nat) (x : Entry) : belowB k (Entry.v x) = true := by simp [Entry.v, Entry.cs, belowB, belowL]
@[simp] theorem Entry.closed (x : Entry) : closedB (Entry.v x) = (closedB (GL.v 3 Vec.v x.Values) && closedB (GL.v 3 Vec.v x.Masks) && closedB (GL.v 3 Vec.v x.Call.Args)) := by simp [Entry.v, Entry.cs, closedB, closedL, Bool.and_assoc]
@[simp] theorem Entry.stw {cs : List VE.V} (hl : cs.length = 6) (x : Entry) : stc (.agg cs) 6 0 (Entry.v x) = some (Entry.v x) := stc_whole hl rfl
@[simp] theorem Entry.stv (y x : Entry) : stc (Entry.v y) 6 0 (Entry.v x) = some (Entry.v x) := stc_whole rfl rfl

end Go.VE
