/- Plain values of Go's types, and how they lie as the evaluator's values. -/
import Derived.Test.YtgkdconajdjkgaaGreatVeSym
namespace Go.VE
set_option linter.unusedVariables false

/-- An int. -/
structure I64 where
  n : Int
  lo : -9223372036854775808 ≤ n
  hi : n ≤ 9223372036854775807

/-- A uint64. -/
structure U64 where
  n : Int
  lo : 0 ≤ n
  hi : n ≤ 18446744073709551615

/-- A byte. -/
structure U8 where
  n : Int
  lo : 0 ≤ n
  hi : n ≤ 255

/-- A text. -/
structure GS where
  s : List UInt8
  le : s.length ≤ 140737488355328

/-- A slice. -/
structure GL (α : Type) where
  l : List α
  t : Tag
  le : l.length ≤ 140737488355328

theorem I64.ext {x y : I64} (h : x.n = y.n) : x = y := by cases x; cases y; simp_all
theorem U64.ext {x y : U64} (h : x.n = y.n) : x = y := by cases x; cases y; simp_all
theorem U8.ext {x y : U8} (h : x.n = y.n) : x = y := by cases x; cases y; simp_all
theorem GS.ext {x y : GS} (h : x.s = y.s) : x = y := by cases x; cases y; simp_all

def I64.v (x : I64) : V := .int .i64 x.n
def U64.v (x : U64) : V := .int .u64 x.n
def U8.v (x : U8) : V := .int .u8 x.n
def GS.v (x : GS) : V := .str x.s
def GL.v {α : Type} (z : Nat) (f : α → V) (x : GL α) : V := .sl z (x.l.map f) x.t

@[simp] theorem I64.v_eq (x : I64) : I64.v x = .int .i64 x.n := rfl
@[simp] theorem U64.v_eq (x : U64) : U64.v x = .int .u64 x.n := rfl
@[simp] theorem U8.v_eq (x : U8) : U8.v x = .int .u8 x.n := rfl
@[simp] theorem GS.v_eq (x : GS) : GS.v x = .str x.s := rfl
theorem GL.v_eq {α : Type} (z : Nat) (f : α → V) (x : GL α) : GL.v z f x = .sl z (x.l.map f) x.t := rfl

@[simp] theorem belowL_map {α : Type} {k : Nat} {f : α → V} (h : ∀ x, belowB k (f x) = true) : ∀ l : List α, belowL k (l.map f) = true
  | [] => rfl
  | x :: l => by simp [h, belowL_map h l]

@[simp] theorem GL.below {α : Type} {z k : Nat} {f : α → V} (h : ∀ x, belowB k (f x) = true) (x : GL α) : belowB k (GL.v z f x) = true := by
  simp [GL.v, belowL_map h]

theorem closedL_map {α : Type} {f : α → V} (l : List α) : closedL (l.map f) = l.all fun x => closedB (f x) := by
  induction l with
  | nil => rfl
  | cons x l ih => simp [ih]

/-- Its cells stay for ever. -/
def Tag.cl : Tag → Bool
  | .brw => false
  | _ => true

theorem GL.closed {α : Type} {z : Nat} {f : α → V} (x : GL α) : closedB (GL.v z f x) = (x.t.cl && x.l.all fun x => closedB (f x)) := by
  simp [GL.v, closedB, closedL_map, Tag.cl]
  cases x.t <;> rfl

/-- A struct. -/
theorem stc_whole {cs : List V} {n : Nat} (hl : cs.length = n) {x : V} (hx : (match x with | .agg c => c.length == n | _ => false) = true) : stc (.agg cs) n 0 x = some x := by
  cases x <;> simp at hx
  rename_i c
  subst hx
  simp [stc, V.cells, okV, hl]

theorem wrap64 {n : Int} (h1 : -9223372036854775808 ≤ n) (h2 : n ≤ 9223372036854775807) : IntKind.i64.wrap n = n := by
  simp only [IntKind.wrap, IntKind.bits, IntKind.signed]
  have : (2 : Int) ^ 64 = 18446744073709551616 := by decide
  have : (2 : Int) ^ 63 = 9223372036854775808 := by decide
  simp_all
  split <;> omega
theorem wrapU64 {n : Int} (h1 : 0 ≤ n) (h2 : n ≤ 18446744073709551615) : IntKind.u64.wrap n = n := by
  simp only [IntKind.wrap, IntKind.bits, IntKind.signed]
  have : (2 : Int) ^ 64 = 18446744073709551616 := by decide
  simp_all
  omega
@[simp] theorem i64_wrap (x : I64) : IntKind.i64.wrap x.n = x.n := wrap64 x.lo x.hi
@[simp] theorem u64_wrap (x : U64) : IntKind.u64.wrap x.n = x.n := wrapU64 x.lo x.hi
@[simp] theorem GL.len {α : Type} (z : Nat) (f : α → VE.V) (x : GL α) : lenV false (GL.v z f x) = some (.int .i64 x.l.length) := by simp [GL.v]
@[simp] theorem GL.iaddr {α : Type} (z : Nat) (f : α → VE.V) (x : GL α) (k : IntKind) (i : Int) : iaddrV z (GL.v z f x) (.int k i) = (getI x.l i).map fun e => .eptr (f e) 0 x.t := by simp [GL.v]
@[simp] theorem GL.o1 {α : Type} (z : Nat) (f : α → VE.V) (x : GL α) : one1 (GL.v z f x) = true := nr rfl
@[simp] theorem GL.okv {α : Type} (z : Nat) (f : α → VE.V) (x : GL α) : okV (GL.v z f x) = true := nr rfl
@[simp] theorem GL.ldc {α : Type} (z : Nat) (f : α → VE.V) (x : GL α) (n : Nat) : ldc (GL.v z f x) false n 0 = some (GL.v z f x) := rfl
theorem drop_cons {α : Type} {l : List α} {k : Int} {x : α} {r : List α} (hk : 0 ≤ k) (h : l.drop k.toNat = x :: r) : getI l k = some x ∧ k < l.length ∧ l.drop (k + 1).toNat = r := by
  have hl : k.toNat < l.length := by
    rcases Nat.lt_or_ge k.toNat l.length with h1 | h1
    · exact h1
    · rw [List.drop_eq_nil_of_le h1] at h; simp at h
  have h0 : l.drop k.toNat = l[k.toNat] :: l.drop (k.toNat + 1) := (List.drop_eq_getElem_cons hl)
  rw [h0] at h
  simp only [List.cons.injEq] at h
  refine ⟨?_, by omega, ?_⟩
  · simp [getI, hk, hl, h.1]
  · rw [show (k + 1).toNat = k.toNat + 1 by omega]; exact h.2
theorem drop_nil {α : Type} {l : List α} {k : Int} (hk : 0 ≤ k) (h : l.drop k.toNat = []) : (l.length : Int) ≤ k := by
  simp only [List.drop_eq_nil_iff] at h; omega

end Go.VE
