/- Joined texts: CtF, CkA. No condition: what each theorem needs stands in it. -/
import Derived.Test.YtgkdconajdjkgaaGreatCc1
import Derived.Test.YtgkdconajdjkgaaGreatCa0
import Derived.Lib.RuneCount
/- Contracts: is an image small? Printed by a program. -/
namespace Go.VE.Un
open Go.VE
set_option linter.unusedVariables false
set_option linter.unusedSimpArgs false

def sumN {α : Type} (f : α → Nat) : List α → Nat
  | [] => 0
  | x :: l => f x + sumN f l
theorem sumN_le {α : Type} (f : α → Nat) (b : Nat) (hb : ∀ x, f x ≤ b) (l : List α) : sumN f l ≤ b * l.length := by
  induction l with
  | nil => simp [sumN]
  | cons x l ih => have := hb x; simp only [sumN, List.length_cons, Nat.mul_add]; omega
theorem sumN_mem {α : Type} {f : α → Nat} {l : List α} {x : α} (h : x ∈ l) : f x ≤ sumN f l := by
  induction l with
  | nil => simp at h
  | cons y l ih =>
    simp only [List.mem_cons] at h
    simp only [sumN]
    rcases h with rfl | h
    · omega
    · have := ih h; omega
def szState (x : State) : Nat := x.Exts.l.length + x.Keys.l.length + x.Cases.l.length
theorem szState_le (x : State) : szState x ≤ 422212465065984 := by
  have h0 := x.Exts.le; have h1 := x.Keys.le; have h2 := x.Cases.le
  unfold szState; omega

theorem loop658_4 (m : Image) (hb : m.States.l.length ≤ 70) : ∀ (r : List State) (k n : Int), 0 ≤ k → k ≤ m.States.l.length → m.States.l.drop k.toNat = r → 0 ≤ n → n ≤ 400000000000000000 + k * 422212465065984 →
    (orc vp).loop 0 [1, 4, 8] L658_4 [(1, .ptr 0 1 0 0), (4, .int .i64 n), (8, .int .i64 k)] [.arr [m.v]] =
     some (.brk 8, [(1, .ptr 0 1 0 0), (4, .int .i64 (n + (sumN szState r : Nat))), (8, .int .i64 m.States.l.length), (111, .bool false)], [.arr [m.v]]) := by
  intro r
  induction r with
  | nil =>
    intro k n hk hkl hd h0 h1
    have hle := drop_nil hk hd
    have hlt : ¬ k < m.States.l.length := by omega
    have he : k = m.States.l.length := by omega
    rw [lp658_4]
    simp -implicitDefEqProofs [l658_4, hlt, he, sumN]
  | cons x r ih =>
    intro k n hk hkl hd h0 h1
    obtain ⟨hg, hlt, hd'⟩ := drop_cons hk hd
    have l0 := x.Exts.le
    have l1 := x.Keys.le
    have l2 := x.Cases.le
    have w1 : IntKind.i64.wrap (k + 1) = k + 1 := wrap64 (by omega) (by omega)
    have v0 : IntKind.i64.wrap (n + (x.Exts.l.length : Int)) = (n + (x.Exts.l.length : Int)) := wrap64 (by omega) (by omega)
    have v1 : IntKind.i64.wrap ((n + (x.Exts.l.length : Int)) + (x.Keys.l.length : Int)) = ((n + (x.Exts.l.length : Int)) + (x.Keys.l.length : Int)) := wrap64 (by omega) (by omega)
    have v2 : IntKind.i64.wrap (((n + (x.Exts.l.length : Int)) + (x.Keys.l.length : Int)) + (x.Cases.l.length : Int)) = (((n + (x.Exts.l.length : Int)) + (x.Keys.l.length : Int)) + (x.Cases.l.length : Int)) := wrap64 (by omega) (by omega)
    have hi := ih (k + 1) (((n + (x.Exts.l.length : Int)) + (x.Keys.l.length : Int)) + (x.Cases.l.length : Int)) (by omega) (by omega) hd' (by omega) (by omega)
    rw [lp658_4]
    simp -implicitDefEqProofs [l658_4, hlt, hg, w1, v0, v1, v2, hi, sumN, szState]
    omega
def szAction (x : Action) : Nat := x.Params.l.length + x.Code.l.length
theorem szAction_le (x : Action) : szAction x ≤ 422212465065984 := by
  have h0 := x.Params.le; have h1 := x.Code.le
  unfold szAction; omega

theorem loop658_3 (m : Image) (hb : m.Actions.l.length ≤ 70) : ∀ (r : List Action) (k n : Int), 0 ≤ k → k ≤ m.Actions.l.length → m.Actions.l.drop k.toNat = r → 0 ≤ n → n ≤ 400000000000000000 + k * 422212465065984 →
    (orc vp).loop 0 [1, 4, 9] L658_3 [(1, .ptr 0 1 0 0), (4, .int .i64 n), (9, .int .i64 k)] [.arr [m.v]] =
     some (.brk 10, [(1, .ptr 0 1 0 0), (4, .int .i64 (n + (sumN szAction r : Nat))), (9, .int .i64 m.Actions.l.length), (143, .bool false)], [.arr [m.v]]) := by
  intro r
  induction r with
  | nil =>
    intro k n hk hkl hd h0 h1
    have hle := drop_nil hk hd
    have hlt : ¬ k < m.Actions.l.length := by omega
    have he : k = m.Actions.l.length := by omega
    rw [lp658_3]
    simp -implicitDefEqProofs [l658_3, hlt, he, sumN]
  | cons x r ih =>
    intro k n hk hkl hd h0 h1
    obtain ⟨hg, hlt, hd'⟩ := drop_cons hk hd
    have l0 := x.Params.le
    have l1 := x.Code.le
    have w1 : IntKind.i64.wrap (k + 1) = k + 1 := wrap64 (by omega) (by omega)
    have v0 : IntKind.i64.wrap (n + (x.Params.l.length : Int)) = (n + (x.Params.l.length : Int)) := wrap64 (by omega) (by omega)
    have v1 : IntKind.i64.wrap ((n + (x.Params.l.length : Int)) + (x.Code.l.length : Int)) = ((n + (x.Params.l.length : Int)) + (x.Code.l.length : Int)) := wrap64 (by omega) (by omega)
    have hi := ih (k + 1) ((n + (x.Params.l.length : Int)) + (x.Code.l.length : Int)) (by omega) (by omega) hd' (by omega) (by omega)
    rw [lp658_3]
    simp -implicitDefEqProofs [l658_3, hlt, hg, w1, v0, v1, hi, sumN, szAction]
    omega
def szTable (x : Table) : Nat := x.Keys.l.length + x.Actions.l.length + x.Default.Args.l.length
theorem szTable_le (x : Table) : szTable x ≤ 422212465065984 := by
  have h0 := x.Keys.le; have h1 := x.Actions.le; have h2 := x.Default.Args.le
  unfold szTable; omega

theorem loop658_2 (m : Image) (hb : m.Tables.l.length ≤ 70) : ∀ (r : List Table) (k n : Int), 0 ≤ k → k ≤ m.Tables.l.length → m.Tables.l.drop k.toNat = r → 0 ≤ n → n ≤ 400000000000000000 + k * 422212465065984 →
    (orc vp).loop 0 [1, 4, 10] L658_2 [(1, .ptr 0 1 0 0), (4, .int .i64 n), (10, .int .i64 k)] [.arr [m.v]] =
     some (.brk 12, [(1, .ptr 0 1 0 0), (4, .int .i64 (n + (sumN szTable r : Nat))), (10, .int .i64 m.Tables.l.length), (167, .bool false)], [.arr [m.v]]) := by
  intro r
  induction r with
  | nil =>
    intro k n hk hkl hd h0 h1
    have hle := drop_nil hk hd
    have hlt : ¬ k < m.Tables.l.length := by omega
    have he : k = m.Tables.l.length := by omega
    rw [lp658_2]
    simp -implicitDefEqProofs [l658_2, hlt, he, sumN]
  | cons x r ih =>
    intro k n hk hkl hd h0 h1
    obtain ⟨hg, hlt, hd'⟩ := drop_cons hk hd
    have l0 := x.Keys.le
    have l1 := x.Actions.le
    have l2 := x.Default.Args.le
    have w1 : IntKind.i64.wrap (k + 1) = k + 1 := wrap64 (by omega) (by omega)
    have v0 : IntKind.i64.wrap (n + (x.Keys.l.length : Int)) = (n + (x.Keys.l.length : Int)) := wrap64 (by omega) (by omega)
    have v1 : IntKind.i64.wrap ((n + (x.Keys.l.length : Int)) + (x.Actions.l.length : Int)) = ((n + (x.Keys.l.length : Int)) + (x.Actions.l.length : Int)) := wrap64 (by omega) (by omega)
    have v2 : IntKind.i64.wrap (((n + (x.Keys.l.length : Int)) + (x.Actions.l.length : Int)) + (x.Default.Args.l.length : Int)) = (((n + (x.Keys.l.length : Int)) + (x.Actions.l.length : Int)) + (x.Default.Args.l.length : Int)) := wrap64 (by omega) (by omega)
    have hi := ih (k + 1) (((n + (x.Keys.l.length : Int)) + (x.Actions.l.length : Int)) + (x.Default.Args.l.length : Int)) (by omega) (by omega) hd' (by omega) (by omega)
    rw [lp658_2]
    simp -implicitDefEqProofs [l658_2, hlt, hg, w1, v0, v1, v2, hi, sumN, szTable]
    omega
def szNode (x : Node) : Nat := x.Code.l.length + x.Args.l.length
theorem szNode_le (x : Node) : szNode x ≤ 422212465065984 := by
  have h0 := x.Code.le; have h1 := x.Args.le
  unfold szNode; omega

theorem loop658_1 (m : Image) : ∀ (r : List Node) (k n : Int), 0 ≤ k → k ≤ m.Ingress.l.length → k ≤ 300 → (m.Ingress.l.take 300).drop k.toNat = r → 0 ≤ n → n ≤ 600000000000000000 + k * 422212465065984 → ∃ k' c : V,
    (orc vp).loop 0 [1, 4, 11] L658_1 [(1, .ptr 0 1 0 0), (4, .int .i64 n), (11, .int .i64 k)] [.arr [m.v]] =
     some (.brk 14, [(1, .ptr 0 1 0 0), (4, .int .i64 (n + (sumN szNode r : Nat))), (11, k'), (204, c)], [.arr [m.v]]) := by
  intro r
  induction r with
  | nil =>
    intro k n hk hkl hk3 hd h0 h1
    have hle := drop_nil hk hd
    simp only [List.length_take] at hle
    rw [lp658_1]
    by_cases hlt : k < m.Ingress.l.length
    · have h3 : ¬ k < 300 := by omega
      exact ⟨.int .i64 k, .bool false, by simp -implicitDefEqProofs [l658_1, hlt, h3, sumN]⟩
    · exact ⟨.int .i64 k, .bool false, by simp -implicitDefEqProofs [l658_1, hlt, sumN]⟩
  | cons x r ih =>
    intro k n hk hkl hk3 hd h0 h1
    obtain ⟨hg', hlt', hd'⟩ := drop_cons hk hd
    simp only [List.length_take] at hlt'
    have hlt : k < m.Ingress.l.length := by omega
    have h3 : k < 300 := by omega
    have hg : getI m.Ingress.l k = some x := by
      have h4 : k.toNat < 300 := by omega
      unfold getI at hg' ⊢; rw [if_pos hk] at hg' ⊢; rw [List.getElem?_take, if_pos h4] at hg'; exact hg'
    have l0 := x.Code.le
    have l1 := x.Args.le
    have w1 : IntKind.i64.wrap (k + 1) = k + 1 := wrap64 (by omega) (by omega)
    have v0 : IntKind.i64.wrap (n + (x.Code.l.length : Int)) = (n + (x.Code.l.length : Int)) := wrap64 (by omega) (by omega)
    have v1 : IntKind.i64.wrap ((n + (x.Code.l.length : Int)) + (x.Args.l.length : Int)) = ((n + (x.Code.l.length : Int)) + (x.Args.l.length : Int)) := wrap64 (by omega) (by omega)
    obtain ⟨k', c, hi⟩ := ih (k + 1) ((n + (x.Code.l.length : Int)) + (x.Args.l.length : Int)) (by omega) (by omega) (by omega) hd' (by omega) (by omega)
    refine ⟨k', c, ?_⟩
    rw [lp658_1]
    simp -implicitDefEqProofs [l658_1, hlt, h3, hg, w1, v0, v1, hi, sumN, szNode]
    omega

theorem loop658_0 (m : Image) : ∀ (r : List Node) (k n : Int), 0 ≤ k → k ≤ m.Egress.l.length → k ≤ 300 → (m.Egress.l.take 300).drop k.toNat = r → 0 ≤ n → n ≤ 600000000000000000 + k * 422212465065984 → ∃ k' c : V,
    (orc vp).loop 0 [1, 4, 12] L658_0 [(1, .ptr 0 1 0 0), (4, .int .i64 n), (12, .int .i64 k)] [.arr [m.v]] =
     some (.brk 16, [(1, .ptr 0 1 0 0), (4, .int .i64 (n + (sumN szNode r : Nat))), (12, k'), (232, c)], [.arr [m.v]]) := by
  intro r
  induction r with
  | nil =>
    intro k n hk hkl hk3 hd h0 h1
    have hle := drop_nil hk hd
    simp only [List.length_take] at hle
    rw [lp658_0]
    by_cases hlt : k < m.Egress.l.length
    · have h3 : ¬ k < 300 := by omega
      exact ⟨.int .i64 k, .bool false, by simp -implicitDefEqProofs [l658_0, hlt, h3, sumN]⟩
    · exact ⟨.int .i64 k, .bool false, by simp -implicitDefEqProofs [l658_0, hlt, sumN]⟩
  | cons x r ih =>
    intro k n hk hkl hk3 hd h0 h1
    obtain ⟨hg', hlt', hd'⟩ := drop_cons hk hd
    simp only [List.length_take] at hlt'
    have hlt : k < m.Egress.l.length := by omega
    have h3 : k < 300 := by omega
    have hg : getI m.Egress.l k = some x := by
      have h4 : k.toNat < 300 := by omega
      unfold getI at hg' ⊢; rw [if_pos hk] at hg' ⊢; rw [List.getElem?_take, if_pos h4] at hg'; exact hg'
    have l0 := x.Code.le
    have l1 := x.Args.le
    have w1 : IntKind.i64.wrap (k + 1) = k + 1 := wrap64 (by omega) (by omega)
    have v0 : IntKind.i64.wrap (n + (x.Code.l.length : Int)) = (n + (x.Code.l.length : Int)) := wrap64 (by omega) (by omega)
    have v1 : IntKind.i64.wrap ((n + (x.Code.l.length : Int)) + (x.Args.l.length : Int)) = ((n + (x.Code.l.length : Int)) + (x.Args.l.length : Int)) := wrap64 (by omega) (by omega)
    obtain ⟨k', c, hi⟩ := ih (k + 1) ((n + (x.Code.l.length : Int)) + (x.Args.l.length : Int)) (by omega) (by omega) (by omega) hd' (by omega) (by omega)
    refine ⟨k', c, ?_⟩
    rw [lp658_0]
    simp -implicitDefEqProofs [l658_0, hlt, h3, hg, w1, v0, v1, hi, sumN, szNode]
    omega

def namesB (l : List Field) : Bool := l.all fun x => decide (x.Name.s.length ≤ 100)
theorem loop658_6 (m : Image) (y : Header) (k n : Int) (hy : getI m.Headers.l k = some y) : ∀ (r : List Field) (j : Int), 0 ≤ j → j ≤ y.Fields.l.length → j ≤ 300 → (y.Fields.l.take 300).drop j.toNat = r → ∃ j' c : V,
    (orc vp).loop 0 [1, 4, 5, 6] L658_6 [(1, .ptr 0 1 0 0), (4, .int .i64 n), (5, .int .i64 k), (6, .int .i64 j)] [.arr [m.v]] =
     some (if namesB r = true then (.brk 4, [(1, .ptr 0 1 0 0), (4, .int .i64 n), (5, .int .i64 k), (6, j'), (73, c)], [.arr [m.v]]) else (.ret, [(2, .bool false)], [.arr [m.v]])) := by
  intro r
  induction r with
  | nil =>
    intro j hk hkl hk3 hd
    have hle := drop_nil hk hd
    simp only [List.length_take] at hle
    rw [lp658_6]
    by_cases hlt : j < y.Fields.l.length
    · have h3 : ¬ j < 300 := by omega
      exact ⟨.int .i64 j, .bool false, by simp -implicitDefEqProofs [l658_6, hlt, h3, hy, namesB]⟩
    · exact ⟨.int .i64 j, .bool false, by simp -implicitDefEqProofs [l658_6, hlt, hy, namesB]⟩
  | cons x r ih =>
    intro j hk hkl hk3 hd
    obtain ⟨hg', hlt', hd'⟩ := drop_cons hk hd
    simp only [List.length_take] at hlt'
    have hlt : j < y.Fields.l.length := by omega
    have h3 : j < 300 := by omega
    have hg : getI y.Fields.l j = some x := by
      have h4 : j.toNat < 300 := by omega
      unfold getI at hg' ⊢; rw [if_pos hk] at hg' ⊢; rw [List.getElem?_take, if_pos h4] at hg'; exact hg'
    have w1 : IntKind.i64.wrap (j + 1) = j + 1 := wrap64 (by omega) (by omega)
    obtain ⟨j', c, hi⟩ := ih (j + 1) (by omega) (by omega) (by omega) hd'
    refine ⟨j', c, ?_⟩
    rw [lp658_6]
    by_cases hx : x.Name.s.length ≤ 100
    · have hx' : ¬ (100 : Int) < x.Name.s.length := by omega
      have hn : namesB (x :: r) = namesB r := by simp [namesB, hx]
      rw [hn]
      simp -implicitDefEqProofs [l658_6, hlt, h3, hg, hy, w1, hi, hx']
    · have hx' : (100 : Int) < x.Name.s.length := by omega
      have hn : namesB (x :: r) = false := by simp [namesB, hx]
      rw [hn]
      simp -implicitDefEqProofs [l658_6, hlt, h3, hg, hy, hx']
def hdrsB (l : List Header) : Bool := l.all fun h => namesB (h.Fields.l.take 300)
def szHeader (x : Header) : Nat := x.Fields.l.length
theorem loop658_7 (m : Image) (hb : m.Headers.l.length ≤ 70) : ∀ (r : List Header) (k n : Int), 0 ≤ k → k ≤ m.Headers.l.length → m.Headers.l.drop k.toNat = r → 0 ≤ n → n ≤ 300000000000000000 + k * 422212465065984 →
    (orc vp).loop 0 [1, 4, 5] L658_7 [(1, .ptr 0 1 0 0), (4, .int .i64 n), (5, .int .i64 k)] [.arr [m.v]] =
     some (if hdrsB r = true then (.brk 2, [(1, .ptr 0 1 0 0), (4, .int .i64 (n + (sumN szHeader r : Nat))), (5, .int .i64 m.Headers.l.length), (49, .bool false)], [.arr [m.v]]) else (.ret, [(2, .bool false)], [.arr [m.v]])) := by
  intro r
  induction r with
  | nil =>
    intro k n hk hkl hd h0 h1
    have hle := drop_nil hk hd
    have hlt : ¬ k < m.Headers.l.length := by omega
    have he : k = m.Headers.l.length := by omega
    rw [lp658_7]
    simp -implicitDefEqProofs [l658_7, hlt, he, sumN, hdrsB]
  | cons x r ih =>
    intro k n hk hkl hd h0 h1
    obtain ⟨hg, hlt, hd'⟩ := drop_cons hk hd
    have hl := x.Fields.le
    have w1 : IntKind.i64.wrap (k + 1) = k + 1 := wrap64 (by omega) (by omega)
    have v0 : IntKind.i64.wrap (n + (x.Fields.l.length : Int)) = n + (x.Fields.l.length : Int) := wrap64 (by omega) (by omega)
    have hi := ih (k + 1) (n + (x.Fields.l.length : Int)) (by omega) (by omega) hd' (by omega) (by omega)
    obtain ⟨j', c, h6⟩ := loop658_6 m x k (n + (x.Fields.l.length : Int)) hg _ 0 (by omega) (by omega) (by omega) rfl
    simp only [Int.toNat_zero, List.drop_zero] at h6
    rw [lp658_7]
    by_cases hx : namesB (x.Fields.l.take 300) = true
    · rw [if_pos hx] at h6
      have hn : hdrsB (x :: r) = hdrsB r := by simp [hdrsB, hx]
      rw [hn]
      simp -implicitDefEqProofs [l658_7, hlt, hg, w1, v0, h6, hi, sumN, szHeader, Int.add_assoc]
    · rw [if_neg hx] at h6
      have hn : hdrsB (x :: r) = false := by simp [hdrsB]; intro h; exact absurd h hx
      rw [hn]
      simp -implicitDefEqProofs [l658_7, hlt, hg, v0, h6]
def instsB (l : List Inst) : Bool := l.all fun x => decide (x.Name.s.length ≤ 100)
theorem loop658_5 (m : Image) (n : Int) : ∀ (r : List Inst) (j : Int), 0 ≤ j → j ≤ m.Insts.l.length → j ≤ 300 → (m.Insts.l.take 300).drop j.toNat = r → ∃ j' c : V,
    (orc vp).loop 0 [1, 4, 7] L658_5 [(1, .ptr 0 1 0 0), (4, .int .i64 n), (7, .int .i64 j)] [.arr [m.v]] =
     some (if instsB r = true then (.brk 6, [(1, .ptr 0 1 0 0), (4, .int .i64 n), (7, j'), (96, c)], [.arr [m.v]]) else (.ret, [(2, .bool false)], [.arr [m.v]])) := by
  intro r
  induction r with
  | nil =>
    intro j hk hkl hk3 hd
    have hle := drop_nil hk hd
    simp only [List.length_take] at hle
    rw [lp658_5]
    by_cases hlt : j < m.Insts.l.length
    · have h3 : ¬ j < 300 := by omega
      exact ⟨.int .i64 j, .bool false, by simp -implicitDefEqProofs [l658_5, hlt, h3, instsB]⟩
    · exact ⟨.int .i64 j, .bool false, by simp -implicitDefEqProofs [l658_5, hlt, instsB]⟩
  | cons x r ih =>
    intro j hk hkl hk3 hd
    obtain ⟨hg', hlt', hd'⟩ := drop_cons hk hd
    simp only [List.length_take] at hlt'
    have hlt : j < m.Insts.l.length := by omega
    have h3 : j < 300 := by omega
    have hg : getI m.Insts.l j = some x := by
      have h4 : j.toNat < 300 := by omega
      unfold getI at hg' ⊢; rw [if_pos hk] at hg' ⊢; rw [List.getElem?_take, if_pos h4] at hg'; exact hg'
    have w1 : IntKind.i64.wrap (j + 1) = j + 1 := wrap64 (by omega) (by omega)
    obtain ⟨j', c, hi⟩ := ih (j + 1) (by omega) (by omega) (by omega) hd'
    refine ⟨j', c, ?_⟩
    rw [lp658_5]
    by_cases hx : x.Name.s.length ≤ 100
    · have hx' : ¬ (100 : Int) < x.Name.s.length := by omega
      have hn : instsB (x :: r) = instsB r := by simp [instsB, hx]
      rw [hn]
      simp -implicitDefEqProofs [l658_5, hlt, h3, hg, w1, hi, hx']
    · have hx' : (100 : Int) < x.Name.s.length := by omega
      have hn : instsB (x :: r) = false := by simp [instsB, hx]
      rw [hn]
      simp -implicitDefEqProofs [l658_5, hlt, h3, hg, hx']
def partsB (m : Image) (p : Int) : Nat → Bool
  | 0 => true
  | j + 1 => briefB (titles m p) && partsB m (p + 1) j
theorem loop658_8 (m : Image) (hm : Held m) : ∀ (j : Nat) (p : Int), 0 ≤ p → p + j = 15 →
    (orc vp).loop 0 [1, 3] L658_8 [(1, .ptr 0 1 0 0), (3, .int .i64 p)] [.arr [m.v]] =
     some (if partsB m p j = true then (.brk 0, [(1, .ptr 0 1 0 0), (3, .int .i64 15), (14, .bool false)], [.arr [m.v]]) else (.ret, [(2, .bool false)], [.arr [m.v]])) := by
  intro j
  induction j with
  | zero =>
    intro p h0 h1
    have he : p = 15 := by omega
    subst he
    rw [lp658_8]
    simp -implicitDefEqProofs [l658_8, partsB]
  | succ j ih =>
    intro p h0 h1
    have hlt : p < 15 := by omega
    have w1 : IntKind.i64.wrap (p + 1) = p + 1 := wrap64 (by omega) (by omega)
    have hi := ih (p + 1) (by omega) (by omega)
    have hl := titles_len hm p
    rw [lp658_8]
    cases hb : briefB (titles m p)
    · simp -implicitDefEqProofs [l658_8, partsB, hlt, hb, hm, hl]
    · simp -implicitDefEqProofs [l658_8, partsB, hlt, hb, hm, hl, w1, hi]
def sizeN (m : Image) : Nat := m.Insts.l.length + m.Ingress.l.length + m.Egress.l.length + m.Deparse.l.length + m.Checks.l.length + m.Updates.l.length + sumN szHeader m.Headers.l +
  sumN szState m.States.l + sumN szAction m.Actions.l + sumN szTable m.Tables.l + sumN szNode (m.Ingress.l.take 300) + sumN szNode (m.Egress.l.take 300)
/-- An image that is gone through. -/
def lightB (m : Image) : Bool := partsB m 0 15 && hdrsB m.Headers.l && instsB (m.Insts.l.take 300) && decide (sizeN m ≤ 900) && decide (m.Name.s.length ≤ 200)
theorem parts_brief {m : Image} : ∀ (j : Nat) (p q : Int), partsB m p j = true → p ≤ q → q < p + j → briefB (titles m q) = true
  | 0, p, q, _, h1, h2 => by omega
  | j + 1, p, q, h, h1, h2 => by
    simp only [partsB, Bool.and_eq_true] at h
    by_cases he : p = q
    · subst he; exact h.1
    · exact parts_brief j (p + 1) q h.2 (by omega) (by omega)
theorem brief_len {l : List GS} (h : briefB l = true) : l.length ≤ 70 := by
  simp only [briefB, Bool.and_eq_true, decide_eq_true_eq] at h; exact h.2
@[simp] theorem light658 (m : Image) (hm : Held m) : callRO vp 658 [m.v] = some (.bool (lightB m)) := by
  have h8 := loop658_8 m hm 15 0 (by omega) (by omega)
  rw [callRO_K fn658]
  by_cases hp : partsB m 0 15 = true
  · rw [if_pos hp] at h8
    have b1 : m.Headers.l.length ≤ 70 := by have := brief_len (parts_brief 15 0 1 hp (by omega) (by omega)); simpa [titles] using this
    have b4 : m.States.l.length ≤ 70 := by have := brief_len (parts_brief 15 0 4 hp (by omega) (by omega)); simpa [titles] using this
    have b5 : m.Actions.l.length ≤ 70 := by have := brief_len (parts_brief 15 0 5 hp (by omega) (by omega)); simpa [titles] using this
    have b6 : m.Tables.l.length ≤ 70 := by have := brief_len (parts_brief 15 0 6 hp (by omega) (by omega)); simpa [titles] using this
    have l1 := m.Insts.le
    have l2 := m.Ingress.le
    have l3 := m.Egress.le
    have l4 := m.Deparse.le
    have l5 := m.Checks.le
    have l6 := m.Updates.le
    have v1 : IntKind.i64.wrap ((m.Insts.l.length : Int) + m.Ingress.l.length) = (m.Insts.l.length : Int) + m.Ingress.l.length := wrap64 (by omega) (by omega)
    have v2 : IntKind.i64.wrap ((m.Insts.l.length : Int) + m.Ingress.l.length + m.Egress.l.length) = (m.Insts.l.length : Int) + m.Ingress.l.length + m.Egress.l.length := wrap64 (by omega) (by omega)
    have v3 : IntKind.i64.wrap ((m.Insts.l.length : Int) + m.Ingress.l.length + m.Egress.l.length + m.Deparse.l.length) = (m.Insts.l.length : Int) + m.Ingress.l.length + m.Egress.l.length + m.Deparse.l.length := wrap64 (by omega) (by omega)
    have v4 : IntKind.i64.wrap ((m.Insts.l.length : Int) + m.Ingress.l.length + m.Egress.l.length + m.Deparse.l.length + m.Checks.l.length) = (m.Insts.l.length : Int) + m.Ingress.l.length + m.Egress.l.length + m.Deparse.l.length + m.Checks.l.length := wrap64 (by omega) (by omega)
    have v5 : IntKind.i64.wrap ((m.Insts.l.length : Int) + m.Ingress.l.length + m.Egress.l.length + m.Deparse.l.length + m.Checks.l.length + m.Updates.l.length) = (m.Insts.l.length : Int) + m.Ingress.l.length + m.Egress.l.length + m.Deparse.l.length + m.Checks.l.length + m.Updates.l.length := wrap64 (by omega) (by omega)
    generalize hN : (m.Insts.l.length : Int) + m.Ingress.l.length + m.Egress.l.length + m.Deparse.l.length + m.Checks.l.length + m.Updates.l.length = N at v5
    have s1 := sumN_le szHeader 140737488355328 (fun x => x.Fields.le) m.Headers.l
    have s2 := sumN_le szState 422212465065984 szState_le m.States.l
    have s3 := sumN_le szAction 422212465065984 szAction_le m.Actions.l
    have s4 := sumN_le szTable 422212465065984 szTable_le m.Tables.l
    have s5 := sumN_le szNode 422212465065984 szNode_le (m.Ingress.l.take 300)
    have t5 : (m.Ingress.l.take 300).length ≤ 300 := by simp; omega
    have h7 := loop658_7 m b1 m.Headers.l 0 N (by omega) (by omega) rfl (by omega) (by omega)
    by_cases hh : hdrsB m.Headers.l = true
    · rw [if_pos hh] at h7
      generalize hN1 : N + (sumN szHeader m.Headers.l : Nat) = N1 at h7
      obtain ⟨j5, c5, h5⟩ := loop658_5 m N1 _ 0 (by omega) (by omega) (by omega) rfl
      simp only [Int.toNat_zero, List.drop_zero] at h5
      by_cases hi : instsB (m.Insts.l.take 300) = true
      · rw [if_pos hi] at h5
        have h4 := loop658_4 m b4 m.States.l 0 N1 (by omega) (by omega) rfl (by omega) (by omega)
        generalize hN2 : N1 + (sumN szState m.States.l : Nat) = N2 at h4
        have h3 := loop658_3 m b5 m.Actions.l 0 N2 (by omega) (by omega) rfl (by omega) (by omega)
        generalize hN3 : N2 + (sumN szAction m.Actions.l : Nat) = N3 at h3
        have h2 := loop658_2 m b6 m.Tables.l 0 N3 (by omega) (by omega) rfl (by omega) (by omega)
        generalize hN4 : N3 + (sumN szTable m.Tables.l : Nat) = N4 at h2
        obtain ⟨k1, c1, h1⟩ := loop658_1 m _ 0 N4 (by omega) (by omega) (by omega) rfl (by omega) (by omega)
        simp only [Int.toNat_zero, List.drop_zero] at h1
        generalize hN5 : N4 + (sumN szNode (m.Ingress.l.take 300) : Nat) = N5 at h1
        obtain ⟨k0, c0, h0⟩ := loop658_0 m _ 0 N5 (by omega) (by omega) (by omega) rfl (by omega) (by omega)
        simp only [Int.toNat_zero, List.drop_zero] at h0
        have hz : N5 + (sumN szNode (m.Egress.l.take 300) : Nat) = sizeN m := by unfold sizeN; omega
        rw [hz] at h0
        by_cases hs : sizeN m ≤ 900
        · have hs' : (sizeN m : Int) ≤ 900 := by omega
          simp -implicitDefEqProofs [f658, b658, h8, v1, v2, v3, v4, v5, hN, h7, h5, h4, h3, h2, h1, h0, hs', lightB, hp, hh, hi, hs]
          omega
        · have hs' : ¬ (sizeN m : Int) ≤ 900 := by omega
          simp -implicitDefEqProofs [f658, b658, h8, v1, v2, v3, v4, v5, hN, h7, h5, h4, h3, h2, h1, h0, hs', lightB, hp, hh, hi, hs]
      · rw [if_neg hi] at h5
        simp only [Bool.not_eq_true] at hi
        simp -implicitDefEqProofs [f658, b658, h8, v1, v2, v3, v4, v5, hN, h7, h5, lightB, hp, hh, hi]
    · rw [if_neg hh] at h7
      simp only [Bool.not_eq_true] at hh
      simp -implicitDefEqProofs [f658, b658, h8, v1, v2, v3, v4, v5, hN, h7, lightB, hp, hh]
  · rw [if_neg hp] at h8
    simp only [Bool.not_eq_true] at hp
    simp -implicitDefEqProofs [f658, b658, h8, lightB, hp]
end Go.VE.Un

/- Contracts: names. -/
namespace Go.VE
/-- The runes of a text from a place on. -/
def runesF (s : List UInt8) : Nat → Nat → List Int
  | 0, _ => []
  | f + 1, pos => if pos < s.length then (decodeL s pos).1 :: runesF s f (pos + (decodeL s pos).2) else []
def runes (s : List UInt8) : List Int := runesF s s.length 0
theorem next_more (s : List UInt8) (pos : Nat) (h : pos < s.length) : nextV 0 [.iter s pos] (.itr 0) = some (.tup [.bool true, .int .i64 pos, .int .i32 (decodeL s pos).1], [.iter s (pos + (decodeL s pos).2)]) := by
  simp [nextV, h]
theorem next_end (s : List UInt8) (pos : Nat) (h : ¬ pos < s.length) : nextV 0 [.iter s pos] (.itr 0) = some (.tup [.bool false], [.iter s pos]) := by
  simp [nextV, h]
theorem gc_iter (vp : VP) (s : List UInt8) (p q : Nat) (fr : Fr) : gcLoop vp [.iter s p] fr [.iter s q] = [.iter s q] := gcLoop_same _ _ _ _ rfl
end Go.VE
namespace Go.VE.Un
open Go.VE
set_option linter.unusedVariables false
set_option linter.unusedSimpArgs false

@[simp] theorem between564 (a b c : Int) : callRO vp 564 [.int .i32 a, .int .i32 b, .int .i32 c] = some (.bool (decide (b ≤ a) && decide (a ≤ c))) := between_g fn564 a b c
@[simp] theorem letter561 (c : Int) : callRO vp 561 [.int .i32 c] = some (.bool (letterB c)) := letter_g fn564 fn561 c
def digitB (c : Int) : Bool := decide (48 ≤ c) && decide (c ≤ 57)
@[simp] theorem digit556 (c : Int) : callRO vp 556 [.int .i32 c] = some (.bool (digitB c)) := by
  rw [callRO_K fn556]
  simp -implicitDefEqProofs [f556, b556, digitB]
/-- Is it a name of n runes more? -/
def nameB : List Int → Int → Bool
  | [], n => decide (1 ≤ n) && decide (n ≤ 24)
  | c :: r, n => if letterB c = false ∧ (n = 0 ∨ digitB c = false ∧ c ≠ 45 ∧ c ≠ 46) then false else nameB r (n + 1)
def nameN : List Int → Int → Option Int
  | [], n => some n
  | c :: r, n => if letterB c = false ∧ (n = 0 ∨ digitB c = false ∧ c ≠ 45 ∧ c ≠ 46) then none else nameN r (n + 1)
theorem dec_pos (s : List UInt8) (pos : Nat) (h : pos < s.length) : 1 ≤ (decodeL s pos).2 := Lib.decode_width_pos ⟨s.toArray⟩ pos (by simpa [ByteArray.size] using h)
theorem loop562 (s : List UInt8) (hs : s.length ≤ 140737488355328) : ∀ (fuel pos : Nat) (n : Int), s.length ≤ pos + fuel → 0 ≤ n → n + fuel ≤ 140737488355328 → 
    ∃ q, (orc vp).loop 0 [3, 7] L562_0 [(3, .int .i64 n), (7, .itr 0)] [.iter s pos] =
     (match nameN (runesF s fuel pos) n with
      | some k => some (.brk 0, [(3, .int .i64 k), (7, .itr 0), (8, .tup [.bool false]), (9, .bool false)], [.iter s q])
      | none => some (.ret, [(2, .bool false)], [.iter s q])) := by
  intro fuel
  induction fuel with
  | zero =>
    intro pos n hp h0 h2
    have hn : ¬ pos < s.length := by omega
    refine ⟨pos, ?_⟩
    rw [lp562_0]
    simp -implicitDefEqProofs [l562_0, next_end s pos hn, runesF, nameN]
  | succ f ih =>
    intro pos n hp h0 h2
    by_cases hn : pos < s.length
    · have hw := dec_pos s pos hn
      have w := wrap64 (n := n + 1) (by omega) (by omega)
      obtain ⟨q, ih⟩ := ih (pos + (decodeL s pos).2) (n + 1) (by omega) (by omega) (by omega)
      by_cases hl : letterB (decodeL s pos).1 = true
      · exact ⟨q, by rw [lp562_0]; simp -implicitDefEqProofs [l562_0, next_more s pos hn, runesF, nameN, hn, hl, w, ih]⟩
      · by_cases hz : n = 0
        · exact ⟨_, by rw [lp562_0]; simp -implicitDefEqProofs [l562_0, next_more s pos hn, runesF, nameN, hn, hl, hz]; rfl⟩
        · by_cases hd : digitB (decodeL s pos).1 = true
          · exact ⟨q, by rw [lp562_0]; simp -implicitDefEqProofs [l562_0, next_more s pos hn, runesF, nameN, hn, hl, hz, hd, w, ih]⟩
          · by_cases h5 : ((decodeL s pos).1 : Int) = 45
            · have h6 : letterB 45 = false := by decide
              have h7 : digitB 45 = false := by decide
              exact ⟨q, by rw [lp562_0]; simp -implicitDefEqProofs [l562_0, next_more s pos hn, runesF, nameN, hn, h6, h7, hz, h5, w, ih]⟩
            · by_cases h6 : ((decodeL s pos).1 : Int) = 46
              · have h8 : letterB 46 = false := by decide
                have h7 : digitB 46 = false := by decide
                exact ⟨q, by rw [lp562_0]; simp -implicitDefEqProofs [l562_0, next_more s pos hn, runesF, nameN, hn, h8, h7, hz, h6, w, ih]⟩
              · exact ⟨_, by rw [lp562_0]; simp -implicitDefEqProofs [l562_0, next_more s pos hn, runesF, nameN, hn, hl, hz, hd, h5, h6]; rfl⟩
    · exact ⟨pos, by rw [lp562_0]; simp -implicitDefEqProofs [l562_0, next_end s pos hn, runesF, nameN, hn]⟩
/-- Is it a name? -/
def mayN (s : List UInt8) : Bool := match nameN (runes s) 0 with | some k => decide (1 ≤ k) && decide (k ≤ 24) | none => false
@[simp] theorem may562 (s : List UInt8) (hs : s.length ≤ 140737488355328) : callRO vp 562 [.str s] = some (.bool (mayN s)) := by
  rw [callRO_K fn562]
  obtain ⟨q, h⟩ := loop562 s hs s.length 0 0 (by omega) (by omega) (by omega)
  cases hn : nameN (runesF s s.length 0) 0 with
  | none =>
    rw [hn] at h
    simp -implicitDefEqProofs [f562, b562, h, mayN, runes, hn]
  | some k =>
    rw [hn] at h
    by_cases h1 : 1 ≤ k
    · simp -implicitDefEqProofs [f562, b562, h, mayN, runes, hn, h1]
    · simp -implicitDefEqProofs [f562, b562, h, mayN, runes, hn, h1]
@[simp] theorem key560 (s : List UInt8) (hs : s.length ≤ 35184372088831) : p560 [.str s] = some (.str (keyL s)) := by simp [p560, hs]
@[simp] theorem alike554 (s t : List UInt8) (hs : s.length ≤ 35184372088831) (ht : t.length ≤ 35184372088831) : callRO vp 554 [.str s, .str t] = some (.bool (decide (keyL s = keyL t))) := by
  rw [callRO_K fn554]
  simp -implicitDefEqProofs [f554, b554, hs, ht]
@[simp] theorem eqk559 (s k : List UInt8) (hs : s.length ≤ 35184372088831) : callRO vp 559 [.str s, .eptr (.str k) 0 .brw] = some (.bool (decide (keyL s = k))) := by
  rw [callRO_K fn559]
  simp -implicitDefEqProofs [f559, b559, hs]
/-- The first text with that key. -/
def idxK (k : List UInt8) : List (List UInt8) → Int → Int
  | [], _ => -1
  | t :: r, i => if keyL t = k then i else idxK k r (i + 1)
theorem loop1203 (k : List UInt8) (l : List (List UInt8)) (t : Tag) (hl : l.length ≤ 140737488355328) (hb : ∀ x ∈ l, x.length ≤ 35184372088831) : ∀ (r : List (List UInt8)) (i : Int), 0 ≤ i → i ≤ l.length → l.drop i.toNat = r →
    (orc vp).loop 0 [0, 1, 7, 8] L1203_0 [(0, .sl 1 (l.map V.str) t), (1, .func 559 [] [.eptr (.str k) 0 .brw]), (7, .int .i64 l.length), (8, .int .i64 i)] [] =
     (if idxK k r i = -1 then some (.brk 0, [(0, .sl 1 (l.map V.str) t), (1, .func 559 [] [.eptr (.str k) 0 .brw]), (7, .int .i64 l.length), (8, .int .i64 l.length), (9, .bool false)], []) else some (.ret, [(4, .int .i64 (idxK k r i))], [])) := by
  intro r
  induction r with
  | nil =>
    intro i hi hil hd
    have hle := drop_nil hi hd
    have hlt : ¬ i < l.length := by omega
    have : i = l.length := by omega
    rw [lp1203_0]
    simp -implicitDefEqProofs [l1203_0, hlt, idxK, this]
  | cons x r ih =>
    intro i hi hil hd
    obtain ⟨hg, hlt, hd'⟩ := drop_cons hi hd
    have hx := hb x (List.mem_of_getElem? (by rw [getI, if_pos hi] at hg; exact hg))
    have w1 : IntKind.i64.wrap (i + 1) = i + 1 := wrap64 (by omega) (by omega)
    rw [lp1203_0]
    by_cases hk : keyL x = k
    · have : ¬ i = -1 := by omega
      simp -implicitDefEqProofs [l1203_0, hlt, hg, idxK, hk, this, hx]
    · simp -implicitDefEqProofs [l1203_0, hlt, hg, idxK, hk, w1, hx, ih (i + 1) (by omega) (by omega) hd']
theorem idxK_ge (k : List UInt8) : ∀ (r : List (List UInt8)) (i : Int), idxK k r i = -1 ∨ i ≤ idxK k r i
  | [], i => .inl rfl
  | t :: r, i => by
    unfold idxK; split
    · exact .inr (Int.le_refl _)
    · rcases idxK_ge k r (i + 1) with h | h <;> omega
theorem idxf1203 (k : List UInt8) (l : List (List UInt8)) (t : Tag) (hl : l.length ≤ 140737488355328) (hb : ∀ x ∈ l, x.length ≤ 35184372088831) :
    callRO vp 1203 [.sl 1 (l.map V.str) t, .func 559 [] [.eptr (.str k) 0 .brw]] = some (.int .i64 (idxK k l 0)) := by
  have h := loop1203 k l t hl hb l 0 (by omega) (by omega) rfl
  rw [callRO_K fn1203]
  by_cases hk : idxK k l 0 = -1
  · rw [if_pos hk] at h
    simp -implicitDefEqProofs [f1203, b1203, h, hk]
  · rw [if_neg hk] at h
    simp -implicitDefEqProofs [f1203, b1203, h]
@[simp] theorem index558 (l : List (List UInt8)) (s : List UInt8) (t : Tag) (hl : l.length ≤ 140737488355328) (hb : ∀ x ∈ l, x.length ≤ 35184372088831) (hs : s.length ≤ 35184372088831) :
    callRO vp 558 [.sl 1 (l.map V.str) t, .str s] = some (.int .i64 (idxK (keyL s) l 0)) := by
  rw [callRO_K fn558]
  simp -implicitDefEqProofs [f558, b558, hs, idxf1203 (keyL s) l t hl hb]
end Go.VE.Un

