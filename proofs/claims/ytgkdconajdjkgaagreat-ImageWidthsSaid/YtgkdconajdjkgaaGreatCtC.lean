/- Contracts: the reference's slots. -/
import Derived.Test.YtgkdconajdjkgaaGreatCtB
namespace Go.VE
theorem appV_0 {lo z bytes : Nat} {es ns : List V} {h : Heap} (hlo : lo ≤ 0) (hn : ns.isEmpty = false) (hr : (es.length + ns.length) * bytes ≤ roomB) :
    appV lo (.arr es :: h) z bytes (.gsl 0 es.length z 0 es.length) ns = some (.gsl 0 (es.length + ns.length) z 0 (es.length + ns.length), .arr (es ++ ns) :: h) := by
  simp [appV, hn, hlo, hr]
theorem appV_1 {lo z bytes : Nat} {es ns : List V} {b : Blk} {h : Heap} (hlo : lo ≤ 1) (hn : ns.isEmpty = false) (hr : (es.length + ns.length) * bytes ≤ roomB) :
    appV lo (b :: .arr es :: h) z bytes (.gsl 1 es.length z 0 es.length) ns = some (.gsl 1 (es.length + ns.length) z 0 (es.length + ns.length), b :: .arr (es ++ ns) :: h) := by
  simp [appV, hn, hlo, hr]
theorem appV_2 {lo z bytes : Nat} {es ns : List V} {b c : Blk} {h : Heap} (hlo : lo ≤ 2) (hn : ns.isEmpty = false) (hr : (es.length + ns.length) * bytes ≤ roomB) :
    appV lo (b :: c :: .arr es :: h) z bytes (.gsl 2 es.length z 0 es.length) ns = some (.gsl 2 (es.length + ns.length) z 0 (es.length + ns.length), b :: c :: .arr (es ++ ns) :: h) := by
  simp [appV, hn, hlo, hr]
theorem listOf_sl (h : Heap) (z : Nat) (es : List V) (t : Tag) : listOf h z (.sl z es t) = some es := by simp [listOf]
theorem buildSl_eq (fr : Fr) (n : Nat) (ps : List VOpd) (h : ((ps.map (opd fr)).all fun v => v.cells.length == n && okV v) = true) : pureOp fr (.buildSl n ps) = some (.sl n (ps.map (opd fr)) .ce) := by
  simp only [pureOp, h, if_true]
end Go.VE
namespace Go.VE.Un
open Go.VE
set_option linter.unusedVariables false
set_option linter.unusedSimpArgs false

def pairV (p : Int × Int) : V := .agg [.int .i64 p.1, .int .i64 p.2]
@[simp] theorem pair_clen (p : Int × Int) : (pairV p).cells.length = 2 := nr rfl
@[simp] theorem pair_ok (p : Int × Int) : okV (pairV p) = true := nr rfl
@[simp] theorem pair_below (k : Nat) (p : Int × Int) : belowB k (pairV p) = true := by simp [pairV]
@[simp] theorem pair_closed (p : Int × Int) : closedB (pairV p) = true := by simp [pairV]
def insP (i k : Int) : Nat → List (Int × Int)
  | 0 => []
  | j + 1 => (i, k) :: insP i (k + 1) j
def slotP (i : Int) : List Inst → List (Int × Int)
  | [] => []
  | x :: r => insP i 0 (many x.Depth.n).toNat ++ slotP (i + 1) r
theorem insP_len (i k : Int) (j : Nat) : (insP i k j).length = j := by
  induction j generalizing k with
  | zero => rfl
  | succ j ih => simp [insP, ih]
theorem slotP_len (i : Int) (l : List Inst) : ((slotP i l).length : Int) = slotsN l := by
  induction l generalizing i with
  | nil => rfl
  | cons x r ih => have := many_bd x.Depth.n; simp [slotP, slotsN, insP_len, ih (i + 1)]; omega
theorem insP_get (i k : Int) (j : Nat) (s : Nat) : (insP i k j)[s]? = if s < j then some (i, k + s) else none := by
  induction j generalizing k s with
  | zero => simp [insP]
  | succ j ih =>
    cases s with
    | zero => simp [insP]
    | succ s => simp only [insP, List.getElem?_cons_succ, ih]; simp; split <;> simp; omega
theorem slotP_get (i : Int) (l : List Inst) (s : Int) (hs : 0 ≤ s) : getI (slotP i l) s = (ofR l i s).map fun r => (r.1, r.2.1) := by
  induction l generalizing i s with
  | nil => simp [slotP, ofR, getI]
  | cons x r ih =>
    have hm := many_bd x.Depth.n
    simp only [slotP, ofR]
    by_cases h : s < many x.Depth.n
    · rw [if_pos h]
      unfold getI
      rw [if_pos hs, List.getElem?_append_left (by rw [insP_len]; omega), insP_get, if_pos (by omega)]
      simp; omega
    · rw [if_neg h, ← ih (i + 1) (s - many x.Depth.n) (by omega)]
      unfold getI
      rw [if_pos hs, if_pos (by omega), List.getElem?_append_right (by rw [insP_len]; omega), insP_len]
      congr 1; omega

theorem loop823_0 (xs : V) (i n : Int) : ∀ (j : Nat) (k : Int) (es : List V), 0 ≤ k → k ≤ n ∨ j = 0 → (n ≤ 4 → (n - k).toNat = j) → (4 < n → j = 0) → es.length + j ≤ 100000000 →
    (orc vp).loop 0 [0, 3, 4, 5, 6] L823_0 [(0, xs), (3, .gsl 0 es.length 2 0 es.length), (4, .int .i64 i), (5, .int .i64 n), (6, .int .i64 k)] [.arr es] =
     some (.brk 2, [(0, xs), (3, .gsl 0 (es ++ (insP i k j).map pairV).length 2 0 (es ++ (insP i k j).map pairV).length), (4, .int .i64 i), (5, .int .i64 n), (6, .int .i64 (k + j)), (26, .bool false)], [.arr (es ++ (insP i k j).map pairV)]) := by
  intro j
  induction j with
  | zero =>
    intro k es hk hkn h1 h2 hr
    rw [lp823_0]
    by_cases h4 : n ≤ 4
    · have hlt : ¬ k < n := by have := h1 h4; omega
      simp -implicitDefEqProofs [l823_0, hlt, insP]
    · by_cases hlt : k < n <;> simp -implicitDefEqProofs [l823_0, hlt, insP, h4]
  | succ j ih =>
    intro k es hk hkn h1 h2 hr
    have h4 : n ≤ 4 := by
      rcases Int.lt_or_le 4 n with h | h
      · have := h2 h; omega
      · exact h
    have hj := h1 h4
    have hlt : k < n := by omega
    have w1 : IntKind.i64.wrap (k + 1) = k + 1 := wrap64 (by omega) (by omega)
    have hi := ih (k + 1) (es ++ [pairV (i, k)]) (by omega) (by omega) (fun _ => by omega) (fun h => by omega) (by simp; omega)
    have ha : appV 0 [.arr es] 2 16 (.gsl 0 es.length 2 0 es.length) [pairV (i, k)] = some (.gsl 0 (es.length + 1) 2 0 (es.length + 1), [.arr (es ++ [pairV (i, k)])]) :=
      appV_0 (Nat.le_refl _) rfl (by simp [roomB]; omega)
    simp only [pairV] at ha
    rw [lp823_0]
    simp -implicitDefEqProofs [pairV, insP] at hi
    simp -implicitDefEqProofs [l823_0, hlt, h4, insP, pureOp, fillV, listOf_sl, ha, w1, hi, pairV]
    omega
theorem loop823_1 (l : GL Inst) (hb : l.l.length ≤ 10000000) : ∀ (r : List Inst) (k : Int) (es : List V), 0 ≤ k → k ≤ l.l.length → l.l.drop k.toNat = r → es.length ≤ 4 * k →
    (orc vp).loop 0 [0, 3, 4] L823_1 [(0, GL.v 3 Inst.v l), (3, .gsl 0 es.length 2 0 es.length), (4, .int .i64 k)] [.arr es] =
     some (.brk 0, [(0, GL.v 3 Inst.v l), (3, .gsl 0 (es ++ (slotP k r).map pairV).length 2 0 (es ++ (slotP k r).map pairV).length), (4, .int .i64 l.l.length), (10, .bool false)], [.arr (es ++ (slotP k r).map pairV)]) := by
  intro r
  induction r with
  | nil =>
    intro k es hk hkl hd hr
    have hle := drop_nil hk hd
    have hlt : ¬ k < l.l.length := by omega
    have he : k = l.l.length := by omega
    rw [lp823_1]
    simp -implicitDefEqProofs [l823_1, hlt, he, slotP]
  | cons x r ih =>
    intro k es hk hkl hd hr
    obtain ⟨hg, hlt, hd'⟩ := drop_cons hk hd
    have hm := many_bd x.Depth.n
    have w1 : IntKind.i64.wrap (k + 1) = k + 1 := wrap64 (by omega) (by omega)
    have hi := ih (k + 1) (es ++ (insP k 0 (many x.Depth.n).toNat).map pairV) (by omega) (by omega) hd' (by simp [insP_len]; omega)
    have h0 := loop823_0 (GL.v 3 Inst.v l) k (if x.Depth.n = 0 then 1 else x.Depth.n) (many x.Depth.n).toNat 0 es (by omega) (by unfold many; split <;> split <;> omega) (by unfold many; split <;> split <;> omega) (by unfold many; split <;> split <;> omega) (by omega)
    rw [lp823_1]
    simp -implicitDefEqProofs at hi
    simp -implicitDefEqProofs at h0
    by_cases hz : x.Depth.n = 0
    · simp -implicitDefEqProofs [hz] at h0 hi
      simp -implicitDefEqProofs [l823_1, hlt, hg, slotP, hz, h0, w1, hi]
    · simp -implicitDefEqProofs [hz] at h0
      simp -implicitDefEqProofs [l823_1, hlt, hg, slotP, hz, h0, w1, hi]
@[simp] theorem slots823 (l : GL Inst) (hb : l.l.length ≤ 10000000) : callRO vp 823 [GL.v 3 Inst.v l] = some (.sl 2 ((slotP 0 l.l).map pairV) .perm) := by
  have h := loop823_1 l hb l.l 0 [] (by omega) (by omega) rfl (by simp)
  rw [callRO_K fn823]
  simp -implicitDefEqProofs at h
  have hc : closedL ((slotP 0 l.l).map pairV) = true := by rw [closedL_map]; simp
  simp -implicitDefEqProofs [f823, b823, h, hc]
end Go.VE.Un
