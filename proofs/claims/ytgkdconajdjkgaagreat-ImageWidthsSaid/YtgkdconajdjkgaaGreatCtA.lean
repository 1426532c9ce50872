import Derived.Test.YtgkdconajdjkgaaGreatVeApi
import Derived.Test.YtgkdconajdjkgaaGreatUnT
namespace Go.VE.Un
open Go.VE
set_option linter.unusedVariables false
set_option linter.unusedSimpArgs false



@[simp] theorem within522 (a b c : Int) : callRO vp 522 [.int .i64 a, .int .i64 b, .int .i64 c] = some (.bool (decide (b ≤ a) && decide (a ≤ c))) := by
  rw [callRO_K fn522]
  by_cases h : b ≤ a <;> simp -implicitDefEqProofs [f522, b522, h]
@[simp] theorem within652 (a b c : Int) : callRO vp 652 [.int .i64 a, .int .i64 b, .int .i64 c] = some (.bool (decide (b ≤ a) && decide (a ≤ c))) := by
  rw [callRO_K fn652]
  by_cases h : b ≤ a <;> simp -implicitDefEqProofs [f652, b652, h]
@[simp] theorem given508 : callRO vp 508 [] = some (.agg [.int .i64 8, .int .i64 8, .int .i64 8, .int .i64 1, .int .i64 8, .int .i64 1, .int .i64 16, .int .i64 8]) := by
  rw [callRO_K fn508]
  simp -implicitDefEqProofs [f508, b508, pureOp, fillV]
/-- How many slots an instance has. -/
def many (d : Int) : Int := if 0 ≤ d ∧ d ≤ 4 then (if d = 0 then 1 else d) else 0
@[simp] theorem many649 (x : Inst) : callRO vp 649 [x.v] = some (.int .i64 (many x.Depth.n)) := by
  rw [callRO_K fn649]
  simp +contextual [f649, b649, many]
  grind

def slotsN : List Inst → Int
  | [] => 0
  | x :: l => many x.Depth.n + slotsN l
theorem many_bd (d : Int) : 0 ≤ many d ∧ many d ≤ 4 := by unfold many; split <;> (try split) <;> omega
theorem slotsN_bd (l : List Inst) : 0 ≤ slotsN l ∧ slotsN l ≤ 4 * l.length := by
  induction l with
  | nil => simp -implicitDefEqProofs [slotsN]
  | cons x l ih => have := many_bd x.Depth.n; simp only [slotsN, List.length_cons]; omega

theorem loop645 (l : GL Inst) : ∀ (r : List Inst) (k n : Int), 0 ≤ k → k ≤ l.l.length → l.l.drop k.toNat = r → 0 ≤ n → n ≤ 4 * k → 
    (orc vp).loop 0 [3, 6, 7, 8] L645_0 [(3, .int .i64 n), (6, GL.v 3 Inst.v l), (7, .int .i64 l.l.length), (8, .int .i64 k)] [] =
     some (.brk 0, [(3, .int .i64 (n + slotsN r)), (6, GL.v 3 Inst.v l), (7, .int .i64 l.l.length), (8, .int .i64 l.l.length), (9, .bool false)], []) := by
  intro r
  induction r with
  | nil =>
    intro k n hk hkl hd h0 h1
    have hle := drop_nil hk hd
    have hlt : ¬ k < l.l.length := by omega
    rw [lp645_0]
    simp -implicitDefEqProofs [l645_0, hlt, slotsN]
    omega
  | cons x r ih =>
    intro k n hk hkl hd h0 h1
    obtain ⟨hg, hlt, hd'⟩ := drop_cons hk hd
    have hle := l.le
    have hm := many_bd x.Depth.n
    have w1 : IntKind.i64.wrap (k + 1) = k + 1 := wrap64 (by omega) (by omega)
    have w2 : IntKind.i64.wrap (n + many x.Depth.n) = n + many x.Depth.n := wrap64 (by omega) (by omega)
    rw [lp645_0]
    simp -implicitDefEqProofs [l645_0, hlt, slotsN, hg, w1, w2, ih (k + 1) (n + many x.Depth.n) (by omega) (by omega) hd' (by omega) (by omega), Int.add_assoc]
@[simp] theorem slots645 (l : GL Inst) : callRO vp 645 [GL.v 3 Inst.v l] = some (.int .i64 (slotsN l.l)) := by
  rw [callRO_K fn645]
  simp -implicitDefEqProofs [f645, b645, loop645 l l.l 0 0]
end Go.VE.Un
namespace Go.VE
@[simp] theorem slice_hi (z : Nat) (es : List V) (t : Tag) (k : IntKind) (i : Int) (hz : 0 < z) (h0 : 0 ≤ i) (h1 : i ≤ es.length) : sliceV z (.sl z es t) none (some (.int k i)) none = some (.sl z (es.take i.toNat) (sliceTag t (i.toNat == es.length) false)) := by
  simp -implicitDefEqProofs [sliceV, hz, bnd, h0, h1]
def GL.take {α : Type} (x : GL α) (i : Int) : GL α := ⟨x.l.take i.toNat, sliceTag x.t (i.toNat == x.l.length) false, by rw [List.length_take]; have := x.le; omega⟩
@[simp] theorem GL.take_l {α : Type} (x : GL α) (i : Int) : (x.take i).l = x.l.take i.toNat := rfl
theorem GL.slice_hi {α : Type} (z : Nat) (f : α → V) (x : GL α) (k : IntKind) (i : Int) (hz : 0 < z) (h0 : 0 ≤ i) (h1 : i ≤ x.l.length) : sliceV z (GL.v z f x) none (some (.int k i)) none = some (GL.v z f (x.take i)) := by
  simp only [GL.v]; rw [Go.VE.slice_hi _ _ _ _ _ hz h0 (by simpa using h1)]; simp -implicitDefEqProofs [GL.take, List.map_take]
end Go.VE
namespace Go.VE.Un
def firstI (l : List Inst) (i : Int) : Option Int := (getI l i).bind fun x => if many x.Depth.n = 0 then none else some (slotsN (l.take i.toNat))
@[simp] theorem first638 (l : GL Inst) (i : Int) : callRO vp 638 [GL.v 3 Inst.v l, .int .i64 i] = some (.tup [.int .i64 ((firstI l.l i).getD 0), .bool (firstI l.l i).isSome]) := by
  have hle := l.le
  have w : IntKind.i64.wrap (l.l.length - 1) = l.l.length - 1 := wrap64 (by omega) (by omega)
  rw [callRO_K fn638]
  rcases getI_cases l.l i with ⟨x, h0, h1, hg⟩ | ⟨h0, hg⟩
  · have h1' : i ≤ l.l.length - 1 := by omega
    by_cases hm : many x.Depth.n = 0
    · simp -implicitDefEqProofs [f638, b638, w, hg, h0, h1', hm, firstI]
    · simp -implicitDefEqProofs [f638, b638, w, hg, h0, h1', hm, firstI, GL.slice_hi 3 Inst.v l .i64 i (by omega) h0 (by omega)]
  · have hn : ¬ (0 ≤ i ∧ i ≤ l.l.length - 1) := by omega
    by_cases h2 : 0 ≤ i
    · have h3 : ¬ i ≤ l.l.length - 1 := by omega
      have h4 : ¬ i < l.l.length := by omega
      simp -implicitDefEqProofs [f638, b638, w, hg, h2, h3, firstI]
    · simp -implicitDefEqProofs [f638, b638, w, hg, h2, firstI]

def ofR : List Inst → Int → Int → Option (Int × Int × Inst)
  | [], _, _ => none
  | x :: r, i, s => if s < many x.Depth.n then some (i, s, x) else ofR r (i + 1) (s - many x.Depth.n)
def ofI (l : List Inst) (s : Int) : Option (Int × Int × Inst) := if s < 0 then none else ofR l 0 s
theorem ofR_get {l : List Inst} : ∀ {r : List Inst} {i s : Int} {j k : Int} {x : Inst}, 0 ≤ i → l.drop i.toNat = r → ofR r i s = some (j, k, x) → getI l j = some x
  | [], _, _, _, _, _, _, _, h => by simp -implicitDefEqProofs [ofR] at h
  | y :: r, i, s, j, k, x, hi, hd, h => by
    obtain ⟨hg, hlt, hd'⟩ := drop_cons hi hd
    simp only [ofR] at h
    split at h
    · simp only [Option.some.injEq, Prod.mk.injEq] at h
      obtain ⟨rfl, rfl, rfl⟩ := h
      exact hg
    · exact ofR_get (by omega) hd' h
theorem loop643 (l : GL Inst) : ∀ (r : List Inst) (k s : Int), 0 ≤ k → k ≤ l.l.length → l.l.drop k.toNat = r → 0 ≤ s → s ≤ 9223372036854775807 →
    (orc vp).loop 0 [1, 11, 12, 13] L643_0 [(1, .int .i64 s), (11, GL.v 3 Inst.v l), (12, .int .i64 l.l.length), (13, .int .i64 k)] [] =
     (match ofR r k s with
      | some (i, j, x) => some (.ret, [(4, .int .i64 i), (5, .int .i64 j), (6, .bool true)], [.arr [x.v]])
      | none => some (.brk 0, [(1, .int .i64 (s - slotsN r)), (11, GL.v 3 Inst.v l), (12, .int .i64 l.l.length), (13, .int .i64 l.l.length), (14, .bool false)], [])) := by
  intro r
  induction r with
  | nil =>
    intro k s hk hkl hd h0 h1
    have hle := drop_nil hk hd
    have hlt : ¬ k < l.l.length := by omega
    rw [lp643_0]
    simp -implicitDefEqProofs [l643_0, hlt, slotsN, ofR]
    omega
  | cons x r ih =>
    intro k s hk hkl hd h0 h1
    obtain ⟨hg, hlt, hd'⟩ := drop_cons hk hd
    have hle := l.le
    have hm := many_bd x.Depth.n
    have w1 : IntKind.i64.wrap (k + 1) = k + 1 := wrap64 (by omega) (by omega)
    rw [lp643_0]
    by_cases hs : s < many x.Depth.n
    · simp -implicitDefEqProofs [l643_0, hlt, ofR, hg, hs]
    · have w2 : IntKind.i64.wrap (s - many x.Depth.n) = s - many x.Depth.n := wrap64 (by omega) (by omega)
      simp -implicitDefEqProofs [l643_0, hlt, hg, w1, w2, ih (k + 1) (s - many x.Depth.n) (by omega) (by omega) hd' (by omega) (by omega), hs, ofR, slotsN, Int.sub_sub]
@[simp] theorem of643 (l : GL Inst) (s : Int) (hs : s ≤ 9223372036854775807) : callRO vp 643 [GL.v 3 Inst.v l, .int .i64 s] = 
    some (match ofI l.l s with | some (i, j, _x) => .tup [.int .i64 i, .int .i64 j, .bool true] | none => .tup [.int .i64 0, .int .i64 0, .bool false]) := by
  rw [callRO_K fn643]
  by_cases h : s < 0
  · simp -implicitDefEqProofs [f643, b643, h, ofI]
  · rcases ho : ofR l.l 0 s with _ | ⟨i, j, x⟩ <;> simp -implicitDefEqProofs [f643, b643, h, ofI, loop643 l l.l 0 s (by omega) (by omega) rfl (by omega) hs, ho]
end Go.VE.Un
