/- Joined texts: CrG, CkT, CkC, CkD. No condition: what each theorem needs stands in it. -/
import Derived.Test.YtgkdconajdjkgaaGreatCc4
import Derived.Test.YtgkdconajdjkgaaGreatCc3
namespace Go.VE.Un
open Go.VE
set_option linter.unusedVariables false
set_option linter.unusedSimpArgs false
def opAnd : V := .str [97,110,100]
theorem loop790_2 (n m w : Nat) (t u : Tag) (hw : w ≤ 128) (op v6 : V) (H : Heap) : ∀ (j k : Nat), k + j = w → ∀ (a b : Bool), ∃ a' b',
    (orc vp).loop 0 [0, 6, 8, 9, 10, 11, 12] L790_2 [(0, op), (6, v6), (8, .sl 1 ((bitsL n w).map bv) t), (9, .sl 1 ((bitsL m w).map bv) u), (10, .bool a), (11, .bool b), (12, .int .i64 k)] H =
      some (.brk 0, [(0, op), (6, v6), (8, .sl 1 ((bitsL n w).map bv) t), (9, .sl 1 ((bitsL m w).map bv) u), (10, .bool a'), (11, .bool b'), (12, .int .i64 w), (43, .bool false)], H) := by
  intro j
  induction j with
  | zero =>
    intro k hk a b
    obtain rfl : k = w := by omega
    refine ⟨a, b, ?_⟩
    rw [lp790_2]
    simp -implicitDefEqProofs [l790_2]
  | succ j ih =>
    intro k hk a b
    have h1 : (k : Int) < w := by omega
    have h3 : k < w := by omega
    have w1 : IntKind.i64.wrap ((k : Int) + 1) = (k : Int) + 1 := wrap64 (by omega) (by omega)
    have ih := ih (k + 1) (by omega)
    have p1 : ((k + 1 : Nat) : Int) = (k : Int) + 1 := by omega
    rw [p1] at ih
    have g1 : iaddrV 1 (.sl 1 ((bitsL n w).map bv) t) (.int .i64 k) = some (.eptr (.bool (n.testBit k)) 0 t) := by
      rw [iaddr_map, getI_nat, bitsL_get n h3]; rfl
    have g2 : iaddrV 1 (.sl 1 ((bitsL m w).map bv) u) (.int .i64 k) = some (.eptr (.bool (m.testBit k)) 0 u) := by
      rw [iaddr_map, getI_nat, bitsL_get m h3]; rfl
    cases c1 : n.testBit k <;> cases c2 : m.testBit k <;> rw [c1] at g1 <;> rw [c2] at g2
    · obtain ⟨a', b', ih⟩ := ih a b
      exact ⟨a', b', by rw [lp790_2]; simp -implicitDefEqProofs [h1, h3, w1, g1, g2, ih, -iaddr_map]⟩
    · obtain ⟨a', b', ih⟩ := ih true false
      exact ⟨a', b', by rw [lp790_2]; simp -implicitDefEqProofs [h1, h3, w1, g1, g2, ih, -iaddr_map]⟩
    · obtain ⟨a', b', ih⟩ := ih false false
      exact ⟨a', b', by rw [lp790_2]; simp -implicitDefEqProofs [h1, h3, w1, g1, g2, ih, -iaddr_map]⟩
    · obtain ⟨a', b', ih⟩ := ih a b
      exact ⟨a', b', by rw [lp790_2]; simp -implicitDefEqProofs [h1, h3, w1, g1, g2, ih, -iaddr_map]⟩
theorem loop790_1 (n m w : Nat) (t u : Tag) (hw : w ≤ 128) (v6 v10 : V) (b1 b2 b3 : Blk) : ∀ (j k : Nat), k + j = w → ∀ (c : Bool), ∃ c',
    (orc vp).loop 0 [0, 6, 8, 9, 10, 13, 14, 15] L790_1 [(0, opAnd), (6, v6), (8, .sl 1 ((bitsL n w).map bv) t), (9, .sl 1 ((bitsL m w).map bv) u), (10, v10), (13, .gsl 3 k 1 0 k), (14, .bool c), (15, .int .i64 k)] [b1, b2, b3, .arr ((bitsL (n &&& m) k).map bv)] =
      some (.brk 2, [(0, opAnd), (6, v6), (8, .sl 1 ((bitsL n w).map bv) t), (9, .sl 1 ((bitsL m w).map bv) u), (10, v10), (13, .gsl 3 w 1 0 w), (14, .bool c'), (15, .int .i64 w), (78, .bool false)], [b1, b2, b3, .arr ((bitsL (n &&& m) w).map bv)]) := by
  intro j
  induction j with
  | zero =>
    intro k hk c
    obtain rfl : k = w := by omega
    refine ⟨c, ?_⟩
    rw [lp790_1]
    simp -implicitDefEqProofs [l790_1]
  | succ j ih =>
    intro k hk c
    have h1 : (k : Int) < w := by omega
    have h3 : k < w := by omega
    have w1 : IntKind.i64.wrap ((k : Int) + 1) = (k : Int) + 1 := wrap64 (by omega) (by omega)
    have ih := ih (k + 1) (by omega)
    have p1 : ((k + 1 : Nat) : Int) = (k : Int) + 1 := by omega
    rw [p1] at ih
    have g1 : iaddrV 1 (.sl 1 ((bitsL n w).map bv) t) (.int .i64 k) = some (.eptr (.bool (n.testBit k)) 0 t) := by
      rw [iaddr_map, getI_nat, bitsL_get n h3]; rfl
    have g2 : iaddrV 1 (.sl 1 ((bitsL m w).map bv) u) (.int .i64 k) = some (.eptr (.bool (m.testBit k)) 0 u) := by
      rw [iaddr_map, getI_nat, bitsL_get m h3]; rfl
    have ha : ∀ x, (n &&& m).testBit k = x → appV 0 [b1, b2, b3, .arr ((bitsL (n &&& m) k).map bv)] 1 1 (.gsl 3 k 1 0 k) [.bool x] = some (.gsl 3 (k + 1) 1 0 (k + 1), [b1, b2, b3, .arr ((bitsL (n &&& m) (k + 1)).map bv)]) := fun x hx => by
      rw [appV_at (es := (bitsL (n &&& m) k).map bv) (by simp) (by simp) (by omega) rfl (by simp [roomB]; omega)]
      rw [bitsL_succ, List.map_append, hx]; rfl
    have hx := Nat.testBit_and n m k
    have e1 : IntKind.i64.wrap (1 : Int) = 1 := by decide
    have e2 : IntKind.i64.wrap (2 : Int) = 2 := by decide
    have e3 : IntKind.i64.wrap (3 : Int) = 3 := by decide
    have r0 : binV .rem (.int .i64 0) (.int .i64 2) = some (.int .i64 0) := rfl
    have r1 : binV .rem (.int .i64 1) (.int .i64 2) = some (.int .i64 1) := rfl
    have r2 : binV .rem (.int .i64 2) (.int .i64 2) = some (.int .i64 0) := rfl
    have r3 : binV .rem (.int .i64 3) (.int .i64 2) = some (.int .i64 1) := rfl
    cases c1 : n.testBit k <;> cases c2 : m.testBit k <;> rw [c1, c2] at hx <;> rw [c1] at g1 <;> rw [c2] at g2 <;> have ha := ha _ hx <;> simp only [Bool.and_true, Bool.true_and, Bool.and_false, Bool.false_and] at ha <;> cases c
    all_goals
      first
        | (obtain ⟨c', ih⟩ := ih false
           refine ⟨c', ?_⟩
           rw [lp790_1]
           simp -implicitDefEqProofs [opAnd] at ih
           simp -implicitDefEqProofs [opAnd, h1, h3, w1, g1, g2, e1, e2, e3, r0, r1, r2, r3, buildSl_eq, listOf_sl, ha, ih, -iaddr_map]
           done)
        | (obtain ⟨c', ih⟩ := ih true
           refine ⟨c', ?_⟩
           rw [lp790_1]
           simp -implicitDefEqProofs [opAnd] at ih
           simp -implicitDefEqProofs [opAnd, h1, h3, w1, g1, g2, e1, e2, e3, r0, r1, r2, r3, buildSl_eq, listOf_sl, ha, ih, -iaddr_map]
           done)
theorem loop790_0 (v6 v10 v14 : V) (w : Nat) (hw : w ≤ 128) (H : Heap) (B : Nat) : ∀ (j k : Nat), k + j = w →
    (orc vp).loop 0 [0, 6, 10, 13, 14, 20] L790_0 [(0, opAnd), (6, v6), (10, v10), (13, .gsl B w 1 0 w), (14, v14), (20, .int .i64 k)] H =
      some (.brk 4, [(0, opAnd), (6, v6), (10, v10), (13, .gsl B w 1 0 w), (14, v14), (20, .int .i64 w), (135, .bool false)], H) := by
  intro j
  induction j with
  | zero =>
    intro k hk
    obtain rfl : k = w := by omega
    rw [lp790_0]
    simp -implicitDefEqProofs [l790_0]
  | succ j ih =>
    intro k hk
    have h1 : (k : Int) < w := by omega
    have h3 : k < w := by omega
    have w1 : IntKind.i64.wrap ((k : Int) + 1) = (k : Int) + 1 := wrap64 (by omega) (by omega)
    have ih := ih (k + 1) (by omega)
    have p1 : ((k + 1 : Nat) : Int) = (k : Int) + 1 := by omega
    rw [p1] at ih
    rw [lp790_0]
    simp -implicitDefEqProofs [opAnd] at ih
    simp -implicitDefEqProofs [opAnd, h1, h3, w1, ih]
theorem and_lt {n m w : Nat} (h : n < 2 ^ w) : n &&& m < 2 ^ w := Nat.lt_of_le_of_lt Nat.and_le_left h
set_option maxHeartbeats 1000000 in
theorem two790_and (x y : Vec) : callRO vp 790 [opAnd,x.v,y.v] = some (.tup [(andV x y).1.v,.int .i64 (andV x y).2]) := by
 have m1 := may785 x
 have m2 := may785 y
 rw [callRO_K fn790]
 by_cases g1 : x.good = true
 ·by_cases g2 : y.good = true
  ·by_cases g3 : x.W.n = y.W.n
   ·have g1' := g1
    have g2' := g2
    simp only [Vec.good,Bool.and_eq_true,decide_eq_true_eq] at g1' g2'
    have b1 := bits783 x g1
    have b2 := bits783 y g2
    rw [← g3] at b2
    generalize hw : x.W.n.toNat = w at *
    have hW : x.W.n = w := by omega
    have hw2 : y.W.n.toNat = w := by rw [← g3]; exact hw
    rw [hw2] at g2'
    obtain ⟨a',b',l2⟩ := loop790_2 x.n y.n w .perm .perm (by omega) opAnd (.ptr 2 1 0 0) [.arr [x.v],.arr [y.v],.arr [Vec.z.v]] w 0 (by omega) false true
    obtain ⟨c',l1⟩ := loop790_1 x.n y.n w .perm .perm (by omega) (.ptr 2 1 0 0) (.bool a') (.arr [x.v]) (.arr [y.v]) (.arr [Vec.z.v]) w 0 (by omega) false
    have l0 := loop790_0 (.ptr 2 1 0 0) (.bool a') (.bool c') w (by omega) [.arr [x.v],.arr [y.v],.arr [Vec.z.v],.arr ((bitsL (x.n &&& y.n) w).map bv)] 3 w 0 (by omega)
    have ho := fun t => of787 (x.n &&& y.n) w t (by omega) (and_lt g1'.2) x.W hW
    have e0 : (bitsL (x.n &&& y.n) 0).map bv = [] := rfl
    rw [e0] at l1
    simp only [Int.natCast_zero] at l2 l1 l0
    have ez : andV x y = (Vec.of x.W (x.n &&& y.n),0) := by unfold andV; rw [if_pos ⟨g1,g2⟩,if_pos g3]
    rw [ez]
    have hb := bvs_below 0 (bitsL (x.n &&& y.n) w)
    simp -implicitDefEqProofs [opAnd] at l2 l1 l0
    simp -implicitDefEqProofs [opAnd,m1,m2,g1,g2,← g3,b1,b2,l2,l1,l0,vec0,ho]
   ·have ez : andV x y = (Vec.z,9) := by unfold andV; rw [if_pos ⟨g1,g2⟩,if_neg g3]
    rw [ez]
    simp -implicitDefEqProofs [opAnd,m1,m2,g1,g2,g3,vec0,pureOp,fillV]
  ·have ez : andV x y = (Vec.z,1) := by unfold andV; rw [if_neg (fun h => g2 h.2)]
   rw [ez]
   simp only [Bool.not_eq_true] at g2
   simp -implicitDefEqProofs [opAnd,m1,m2,g1,g2,vec0,pureOp,fillV]
 ·have ez : andV x y = (Vec.z,1) := by unfold andV; rw [if_neg (fun h => g1 h.1)]
  rw [ez]
  simp only [Bool.not_eq_true] at g1
  simp -implicitDefEqProofs [opAnd,m1,m2,g1,vec0,pureOp,fillV]
end Go.VE.Un
namespace Go.VE.Un
open Go.VE
set_option linter.unusedVariables false
set_option linter.unusedSimpArgs false
def instsE (n : Int) : List Inst → List (List UInt8) → Int
 | [],_ => 0
 | x :: r,ns => if plainN x.Name.s = false then 4 else if 0 ≤ idxK (keyL x.Name.s) ns 0 then 6 else if inB x.Header.n 0 (n - 1) = false then 5 else if inB x.Depth.n 0 4 = false then 7 else instsE n r (ns ++ [x.Name.s])
def instsR (n : Int) : List Inst → List (List UInt8) → Option (List (List UInt8))
 | [],ns => some ns
 | x :: r,ns => if plainN x.Name.s = false then none else if 0 ≤ idxK (keyL x.Name.s) ns 0 then none else if inB x.Header.n 0 (n - 1) = false then none else if inB x.Depth.n 0 4 = false then none else instsR n r (ns ++ [x.Name.s])
theorem instsR_E (n : Int) : ∀ (r : List Inst) (ns : List (List UInt8)) {ns' : List (List UInt8)}, instsR n r ns = some ns' → instsE n r ns = 0
  | [], ns, ns', e => rfl
  | f :: r, ns, ns', e => by
    simp only [instsR] at e
    split at e
    · simp at e
    · rename_i h1
      split at e
      · simp at e
      · rename_i h2
        split at e
        · simp at e
        · rename_i h3
          split at e
          · simp at e
          · rename_i h4
            simp only [instsE]; rw [if_neg h1, if_neg h2, if_neg h3, if_neg h4]; exact instsR_E n r _ e
theorem loop640 (hs : GL Header) (l : GL Inst) (hl : l.l.length ≤ 16) (hb : ∀ f ∈ l.l, f.Name.s.length ≤ 35184372088831) : ∀ (r : List Inst) (k : Int) (ns : List (List UInt8)), 0 ≤ k → k ≤ l.l.length → l.l.drop k.toNat = r → ns.length = k.toNat → (∀ s ∈ ns, s.length ≤ 35184372088831) →
    ∃ hh, (orc vp).loop 0 [0, 1, 5, 11, 12, 13] L640_0 [(0, GL.v 6 Header.v hs), (1, GL.v 3 Inst.v l), (5, .gsl 0 ns.length 1 0 ns.length), (11, GL.v 3 Inst.v l), (12, .int .i64 l.l.length), (13, .int .i64 k)] [.arr (ns.map .str)] =
     (match instsR hs.l.length r ns with
      | some ns => some (.brk 0, [(0, GL.v 6 Header.v hs), (1, GL.v 3 Inst.v l), (5, .gsl 0 ns.length 1 0 ns.length), (11, GL.v 3 Inst.v l), (12, .int .i64 l.l.length), (13, .int .i64 l.l.length), (14, .bool false)], hh)
      | none => some (.ret, [(4, .int .i64 (instsE hs.l.length r ns))], hh)) := by
  have hle := hs.le
  have w0 : IntKind.i64.wrap (hs.l.length - 1) = hs.l.length - 1 := wrap64 (by omega) (by omega)
  intro r
  induction r with
  | nil =>
    intro k ns hk hkl hd hn hs
    have hle := drop_nil hk hd
    have hlt : ¬ k < l.l.length := by omega
    have he : k = l.l.length := by omega
    refine ⟨[.arr (ns.map .str)], ?_⟩
    rw [lp640_0]
    simp -implicitDefEqProofs [hlt, instsR, he]
  | cons x r ih =>
    intro k ns hk hkl hd hn hns
    obtain ⟨hg, hlt, hd'⟩ := drop_cons hk hd
    have hx := hb x (List.mem_of_getElem? (by rw [getI, if_pos hk] at hg; exact hg))
    have hx' : x.Name.s.length ≤ 140737488355328 := by omega
    have hnl : ns.length ≤ 140737488355328 := by omega
    have hi5 := index558 ns x.Name.s .brw hnl hns hx
    by_cases hp : plainN x.Name.s = true
    · by_cases hi : 0 ≤ idxK (keyL x.Name.s) ns 0
      · refine ⟨[.arr (ns.map .str), .arr [x.v]], ?_⟩
        rw [lp640_0]
        simp -implicitDefEqProofs [hlt, hg, hp, hi, hx, hx', strs_view, instsR, instsE, strs_below, hi5]
      · by_cases hw : (decide (0 ≤ x.Header.n) && decide (x.Header.n ≤ (hs.l.length : Int) - 1)) = true
        · by_cases hz : (decide (0 ≤ x.Depth.n) && decide (x.Depth.n ≤ 4)) = true
          · have w1 : IntKind.i64.wrap (k + 1) = k + 1 := wrap64 (by omega) (by omega)
            obtain ⟨hh, ih⟩ := ih (k + 1) (ns ++ [x.Name.s]) (by omega) (by omega) hd' (by simp; omega) (by
              intro s h; simp only [List.mem_append, List.mem_singleton] at h
              rcases h with h | rfl
              · exact hns s h
              · exact hx)
            refine ⟨hh, ?_⟩
            rw [lp640_0]
            have ha := appV_0 (lo := 0) (z := 1) (bytes := 16) (es := ns.map V.str) (ns := [.str x.Name.s]) (h := [.arr [x.v]]) (by omega) rfl (by simp [roomB]; omega)
            simp only [List.length_map] at ha
            simp -implicitDefEqProofs [hlt, hg, hp, hi, hw, hz, w0, hx, hx', strs_view, instsR, instsE, inB, strs_below, hi5, w1, ha, listOf_sl, buildSl_eq, gc_app (es := ns.map V.str) (b := .arr [x.v]) vpgc (belowL_app (strs_below 1 ns) (by simp : belowL 1 [V.str x.Name.s] = true))]
            simpa using ih
          · refine ⟨[.arr (ns.map .str), .arr [x.v]], ?_⟩
            rw [lp640_0]
            simp only [Bool.not_eq_true] at hz
            simp -implicitDefEqProofs [hlt, hg, hp, hi, hw, hz, w0, hx, hx', strs_view, instsR, instsE, inB, strs_below, hi5]
        · refine ⟨[.arr (ns.map .str), .arr [x.v]], ?_⟩
          rw [lp640_0]
          simp only [Bool.not_eq_true] at hw
          simp -implicitDefEqProofs [hlt, hg, hp, hi, hw, w0, hx, hx', strs_view, instsR, instsE, inB, strs_below, hi5]
    · refine ⟨[.arr (ns.map .str), .arr [x.v]], ?_⟩
      rw [lp640_0]
      simp -implicitDefEqProofs [hlt, hg, hp, hx', instsR, instsE]
def mayI (n : Int) (l : List Inst) : Int := if 16 < l.length then 2 else if instsE n l [] ≠ 0 then instsE n l [] else if 32 < slotsN l then 8 else 0
theorem instsE_n (n : Int) : ∀ (r : List Inst) (ns : List (List UInt8)), instsR n r ns = none → instsE n r ns ≠ 0
  | [], ns, e => by simp [instsR] at e
  | f :: r, ns, e => by
    simp only [instsR] at e
    simp only [instsE]
    split
    · decide
    · rename_i h1; rw [if_neg h1] at e
      split
      · decide
      · rename_i h1; rw [if_neg h1] at e
        split
        · decide
        · rename_i h1; rw [if_neg h1] at e
          split
          · decide
          · rename_i h1; rw [if_neg h1] at e
            exact instsE_n n r _ e
@[simp] theorem insts640 (hs : GL Header) (l : GL Inst) (hb : l.l.length ≤ 16 → ∀ f ∈ l.l, f.Name.s.length ≤ 35184372088831) : callRO vp 640 [GL.v 6 Header.v hs, GL.v 3 Inst.v l] = some (.int .i64 (mayI hs.l.length l.l)) := by
  have hle := l.le
  rw [callRO_K fn640]
  by_cases h1 : 16 < l.l.length
  · have h1' : (16 : Int) < l.l.length := by omega
    simp -implicitDefEqProofs [h1, h1', mayI]
  · have h1' : ¬ (16 : Int) < l.l.length := by omega
    obtain ⟨hh, h⟩ := loop640 hs l (by omega) (hb (by omega)) l.l 0 [] (by omega) (by omega) rfl rfl (by simp)
    cases hr : instsR hs.l.length l.l [] with
    | none =>
      rw [hr] at h
      have he := instsE_n _ _ _ hr
      simp -implicitDefEqProofs [h1, h1'] at h ⊢
      simp -implicitDefEqProofs [h, mayI, h1, he]
    | some ns =>
      rw [hr] at h
      have he := instsR_E _ _ _ hr
      simp -implicitDefEqProofs [h1, h1'] at h ⊢
      by_cases h2 : 32 < slotsN l.l
      · simp -implicitDefEqProofs [h, mayI, h1, he, h2]
      · simp -implicitDefEqProofs [h, mayI, h1, he, h2]
def bitsN : List Field → Int
 | [] => 0
 | f :: r => f.W.n + bitsN r
theorem bitsN_bd : ∀ (r : List Field), (∀ f ∈ r, 1 ≤ f.W.n ∧ f.W.n ≤ 128) → 0 ≤ bitsN r ∧ bitsN r ≤ 128 * r.length
  | [], _ => by simp [bitsN]
  | f :: r, h => by
    have h1 := h f List.mem_cons_self
    have h2 := bitsN_bd r (fun g hg => h g (List.mem_cons_of_mem _ hg))
    simp only [bitsN, List.length_cons]; omega
theorem loop647 (h : Header) (n : Int) (hn : n ≤ h.Fields.l.length) (hl : h.Fields.l.length ≤ 16) (hw : ∀ f ∈ h.Fields.l, 1 ≤ f.W.n ∧ f.W.n ≤ 128) : ∀ (j : Nat) (k sum : Int), 0 ≤ k → k + j = n → 0 ≤ sum → sum ≤ 128 * k →
    (orc vp).loop 0 [2, 6, 8, 9] L647_0 [(2, .ptr 0 1 0 0), (6, .int .i64 sum), (8, .int .i64 n), (9, .int .i64 k)] [.arr [h.v]] =
     some (.brk 0, [(2, .ptr 0 1 0 0), (6, .int .i64 (sum + bitsN ((h.Fields.l.drop k.toNat).take j))), (8, .int .i64 n), (9, .int .i64 n), (10, .bool false)], [.arr [h.v]]) := by
  intro j
  induction j with
  | zero =>
    intro k sum hk hkn h0 h1
    have hlt : ¬ k < n := by omega
    have he : k = n := by omega
    rw [lp647_0]
    simp -implicitDefEqProofs [hlt, bitsN, he]
  | succ j ih =>
    intro k sum hk hkn h0 h1
    have hlt : k < n := by omega
    have hk' : k.toNat < h.Fields.l.length := by omega
    have hg : getI h.Fields.l k = some h.Fields.l[k.toNat] := by simp [getI, hk, hk']
    have hd : h.Fields.l.drop k.toNat = h.Fields.l[k.toNat] :: h.Fields.l.drop (k + 1).toNat := by
      rw [show (k + 1).toNat = k.toNat + 1 by omega]; exact List.drop_eq_getElem_cons hk'
    have hx := hw _ (List.getElem_mem hk')
    have w1 : IntKind.i64.wrap (k + 1) = k + 1 := wrap64 (by omega) (by omega)
    have w2 : IntKind.i64.wrap (sum + h.Fields.l[k.toNat].W.n) = sum + h.Fields.l[k.toNat].W.n := wrap64 (by omega) (by omega)
    rw [lp647_0]
    rw [hd, List.take_succ_cons, bitsN]
    simp -implicitDefEqProofs [hlt, hg, w1, w2, ih (k + 1) (sum + h.Fields.l[k.toNat].W.n) (by omega) (by omega) (by omega) (by omega), Int.add_assoc]
theorem ahead647 (h : Header) (n : Int) (h0 : 0 ≤ n) (hn : n ≤ h.Fields.l.length) (hl : h.Fields.l.length ≤ 16) (hw : ∀ f ∈ h.Fields.l,1 ≤ f.W.n ∧ f.W.n ≤ 128) :
  callRO vp 647 [h.v,.int .i64 n] = some (.tup [.int .i64 (bitsN (h.Fields.l.take n.toNat)),.bool true]) := by
 have hlp := loop647 h n hn hl hw n.toNat 0 0 (by omega) (by omega) (by omega) (by omega)
 simp only [Int.toNat_zero,List.drop_zero,Int.zero_add] at hlp
 rw [callRO_K fn647]
 simp -implicitDefEqProofs [hlp]
theorem fieldsE_W : ∀ (l : List Field) (ns : List (List UInt8)) (sum : Int), fieldsE l ns sum = 0 → ∀ f ∈ l, 1 ≤ f.W.n ∧ f.W.n ≤ 128
  | [], _, _, _, f, hf => by simp at hf
  | x :: r, ns, sum, e, f, hf => by
    simp only [fieldsE] at e
    split at e
    · simp at e
    · split at e
      · simp at e
      · split at e
        · rename_i h3
          rcases List.mem_cons.1 hf with rfl | hf
          · exact h3
          · exact fieldsE_W r _ _ e f hf
        · simp at e
theorem mayH_0 {h : Header} (e : mayH h = 0) : plainN h.Name.s = true ∧ 0 < h.Fields.l.length ∧ h.Fields.l.length ≤ 16 ∧ fieldsE h.Fields.l [] 0 = 0 ∧ variesB h = true := by
 unfold mayH at e
 split at e
 ·simp at e
 ·rename_i h1
  split at e
  ·simp at e
  ·rename_i h2
   split at e
   ·simp at e
   ·rename_i h3
    split at e
    ·rename_i h4; exact absurd e h4
    ·rename_i h4
     split at e
     ·simp at e
     ·rename_i h5
      simp at h1 h5 h4
      exact ⟨h1,by omega,by omega,h4,h5⟩
def offB (h : Header) (f : Int) : Option Int := if mayH h = 0 ∧ 0 ≤ f ∧ f < h.Fields.l.length then some (bitsN (h.Fields.l.take f.toNat)) else none
@[simp] theorem offset644 (h : Header) (f : Int) (hb : h.Fields.l.length ≤ 16 → ∀ f ∈ h.Fields.l,f.Name.s.length ≤ 35184372088831) : callRO vp 644 [h.v,.int .i64 f] = some (.tup [.int .i64 ((offB h f).getD 0),.bool (offB h f).isSome]) := by
 have hle := h.Fields.le
 have w : IntKind.i64.wrap (h.Fields.l.length - 1) = h.Fields.l.length - 1 := wrap64 (by omega) (by omega)
 have hm := may641 h hb
 rw [callRO_K fn644]
 by_cases h0 : mayH h = 0
 ·by_cases h1 : (decide (0 ≤ f) && decide (f ≤ (h.Fields.l.length : Int) - 1)) = true
  ·have h2 : 0 ≤ f ∧ f < h.Fields.l.length := by simp at h1; omega
   obtain ⟨_,g1,g2,g3,_⟩ := mayH_0 h0
   have ha := ahead647 h f h2.1 (by omega) g2 (fieldsE_W _ _ _ g3)
   have ho : offB h f = some (bitsN (h.Fields.l.take f.toNat)) := by unfold offB; rw [if_pos ⟨h0,h2⟩]
   simp -implicitDefEqProofs [hm,h0,h1,w,ha,ho]
  ·have ho : offB h f = none := by
    unfold offB; rw [if_neg]; simp at h1; intro ⟨_,a,b⟩; omega
   simp only [Bool.not_eq_true] at h1
   simp -implicitDefEqProofs [hm,h0,h1,w,ho]
 ·have ho : offB h f = none := by unfold offB; rw [if_neg (fun a => h0 a.1)]
  simp -implicitDefEqProofs [hm,h0,ho]
end Go.VE.Un
namespace Go.VE
structure Sh where
 a : Bool
 b : Bool
 fr : Int
 to : Int
 least : Int
 most : Int
 takes : Int
 puts : Int
def Sh.v (s : Sh) : V := .agg [.bool s.a,.bool s.b,.int .i64 s.fr,.int .i64 s.to,.int .i64 s.least,.int .i64 s.most,.int .i64 s.takes,.int .i64 s.puts]
@[simp] theorem Sh.l0 (s : Sh) : ldc s.v false 1 0 = some (.bool s.a) := rfl
@[simp] theorem Sh.l1 (s : Sh) : ldc s.v false 1 1 = some (.bool s.b) := rfl
@[simp] theorem Sh.l2 (s : Sh) : ldc s.v false 1 2 = some (.int .i64 s.fr) := rfl
@[simp] theorem Sh.l3 (s : Sh) : ldc s.v false 1 3 = some (.int .i64 s.to) := rfl
@[simp] theorem Sh.l4 (s : Sh) : ldc s.v false 1 4 = some (.int .i64 s.least) := rfl
@[simp] theorem Sh.l5 (s : Sh) : ldc s.v false 1 5 = some (.int .i64 s.most) := rfl
@[simp] theorem Sh.l6 (s : Sh) : ldc s.v false 1 6 = some (.int .i64 s.takes) := rfl
@[simp] theorem Sh.l7 (s : Sh) : ldc s.v false 1 7 = some (.int .i64 s.puts) := rfl
@[simp] theorem Sh.lw (s : Sh) : ldc s.v true 8 0 = some s.v := rfl
@[simp] theorem Sh.clen (s : Sh) : s.v.cells.length = 8 := nr rfl
@[simp] theorem Sh.ok (s : Sh) : okV s.v = true := nr rfl
@[simp] theorem Sh.below (k : Nat) (s : Sh) : belowB k s.v = true := by simp [Sh.v]
@[simp] theorem Sh.closed (s : Sh) : closedB s.v = true := by simp [Sh.v]
@[simp] theorem Sh.stw {cs : List V} (hl : cs.length = 8) (s : Sh) : stc (.agg cs) 8 0 s.v = some s.v := stc_whole hl rfl
def shapes : List Sh := [⟨false,false,0,0,0,0,0,1⟩,⟨true,true,0,31,0,15,0,1⟩,⟨true,false,0,23,0,0,0,1⟩,⟨true,false,0,7,0,0,0,1⟩,⟨true,false,0,31,0,0,0,1⟩,⟨true,false,0,7,0,0,1,1⟩,⟨false,false,0,0,0,0,1,1⟩,⟨false,false,0,0,0,0,1,1⟩,⟨true,false,0,128,0,0,1,1⟩,⟨true,false,0,128,0,0,1,1⟩,⟨true,true,0,127,0,127,1,1⟩,⟨true,false,1,128,0,0,1,1⟩,⟨false,false,0,0,0,0,2,1⟩,⟨false,false,0,0,0,0,2,1⟩,⟨false,false,0,0,0,0,2,1⟩,⟨false,false,0,0,0,0,2,1⟩,⟨false,false,0,0,0,0,2,1⟩,⟨false,false,0,0,0,0,2,1⟩,⟨false,false,0,0,0,0,2,1⟩,⟨false,false,0,0,0,0,2,1⟩,⟨false,false,0,0,0,0,2,1⟩,⟨false,false,0,0,0,0,2,1⟩,⟨true,true,0,31,0,15,1,0⟩,⟨true,false,0,23,0,0,1,0⟩,⟨true,false,0,7,0,0,2,0⟩,⟨true,false,0,31,0,0,0,0⟩,⟨true,false,0,31,0,0,0,0⟩,⟨true,true,0,15,1,4,0,0⟩,⟨true,true,0,15,1,4,0,0⟩,⟨true,false,0,7,0,0,1,0⟩,⟨true,false,0,7,0,0,1,1⟩,⟨true,false,0,64,0,0,0,0⟩,⟨true,false,0,64,0,0,1,0⟩,⟨true,true,0,31,0,64,0,0⟩,⟨false,false,0,0,0,0,0,0⟩]
def kinds : List Nat := [282,281,275,275,283,275,279,279,279,279,280,279,286,286,286,286,286,286,286,286,286,286,281,275,275,283,283,277,277,275,275,278,278,276,285]
def Vec.same (x y : Vec) : Bool := decide (x.W.n = y.W.n) && (decide (x.Hi.n = y.Hi.n) && decide (x.Lo.n = y.Lo.n))
@[simp] theorem Vec.eqv (x y : Vec) : eqV (some [.i,.i,.i]) x.v y.v = some (x.same y) := by
 rw [Vec.v_eq,Vec.v_eq]
 by_cases h1 : x.W.n = y.W.n <;> by_cases h2 : x.Hi.n = y.Hi.n <;> by_cases h3 : x.Lo.n = y.Lo.n <;> simp [eqV,eqKs,eqK,Vec.same,h1,h2,h3]
end Go.VE
namespace Go.VE.Un
open Go.VE
set_option linter.unusedVariables false
set_option linter.unusedSimpArgs false
@[simp] theorem known430 (o : Int) : callRO vp 430 [.int .i64 o] = some (.bool (decide (0 ≤ o) && decide (o < 35))) := by
 rw [callRO_K fn430]
 by_cases h : 0 ≤ o <;> simp -implicitDefEqProofs [h]
@[simp] theorem within433 (a b c : Int) : callRO vp 433 [.int .i64 a,.int .i64 b,.int .i64 c] = some (.bool (decide (b ≤ a) && decide (a ≤ c))) := by
 rw [callRO_K fn433]
 by_cases h : b ≤ a <;> simp -implicitDefEqProofs [h]
@[simp] theorem alone428 (a b c d : Int) : callRO vp 428 [.int .i64 a,.int .i64 b,.int .i64 c,.int .i64 d] = some (Sh.v ⟨true,false,a,b,0,0,c,d⟩) := by
 rw [callRO_K fn428]
 simp -implicitDefEqProofs [pureOp,fillV,Sh.v]
@[simp] theorem both429 (a b c d e : Int) : callRO vp 429 [.int .i64 a,.int .i64 b,.int .i64 c,.int .i64 d,.int .i64 e] = some (Sh.v ⟨true,true,0,a,b,c,d,e⟩) := by
 rw [callRO_K fn429]
 simp -implicitDefEqProofs [pureOp,fillV,Sh.v]
theorem ops_cases {o : Int} (h0 : 0 ≤ o) (h1 : o < 35) : o = 0 ∨ o = 1 ∨ o = 2 ∨ o = 3 ∨ o = 4 ∨ o = 5 ∨ o = 6 ∨ o = 7 ∨ o = 8 ∨ o = 9 ∨ o = 10 ∨ o = 11 ∨ o = 12 ∨ o = 13 ∨ o = 14 ∨ o = 15 ∨ o = 16 ∨ o = 17 ∨ o = 18 ∨ o = 19 ∨ o = 20 ∨ o = 21 ∨ o = 22 ∨ o = 23 ∨ o = 24 ∨ o = 25 ∨ o = 26 ∨ o = 27 ∨ o = 28 ∨ o = 29 ∨ o = 30 ∨ o = 31 ∨ o = 32 ∨ o = 33 ∨ o = 34 := by omega
theorem sh432_0 : callRO vp 432 [.int .i64 0] = some (Sh.v ⟨false,false,0,0,0,0,0,1⟩) := by
 rw [callRO_K fn432]
 simp -implicitDefEqProofs [pureOp,fillV,Sh.v]
theorem sh432_1 : callRO vp 432 [.int .i64 1] = some (Sh.v ⟨true,true,0,31,0,15,0,1⟩) := by
 rw [callRO_K fn432]
 simp -implicitDefEqProofs [pureOp,fillV,Sh.v]
theorem sh432_2 : callRO vp 432 [.int .i64 2] = some (Sh.v ⟨true,false,0,23,0,0,0,1⟩) := by
 rw [callRO_K fn432]
 simp -implicitDefEqProofs [pureOp,fillV,Sh.v]
theorem sh432_3 : callRO vp 432 [.int .i64 3] = some (Sh.v ⟨true,false,0,7,0,0,0,1⟩) := by
 rw [callRO_K fn432]
 simp -implicitDefEqProofs [pureOp,fillV,Sh.v]
theorem sh432_4 : callRO vp 432 [.int .i64 4] = some (Sh.v ⟨true,false,0,31,0,0,0,1⟩) := by
 rw [callRO_K fn432]
 simp -implicitDefEqProofs [pureOp,fillV,Sh.v]
theorem sh432_5 : callRO vp 432 [.int .i64 5] = some (Sh.v ⟨true,false,0,7,0,0,1,1⟩) := by
 rw [callRO_K fn432]
 simp -implicitDefEqProofs [pureOp,fillV,Sh.v]
theorem sh432_6 : callRO vp 432 [.int .i64 6] = some (Sh.v ⟨false,false,0,0,0,0,1,1⟩) := by
 rw [callRO_K fn432]
 simp -implicitDefEqProofs [pureOp,fillV,Sh.v]
theorem sh432_7 : callRO vp 432 [.int .i64 7] = some (Sh.v ⟨false,false,0,0,0,0,1,1⟩) := by
 rw [callRO_K fn432]
 simp -implicitDefEqProofs [pureOp,fillV,Sh.v]
theorem sh432_8 : callRO vp 432 [.int .i64 8] = some (Sh.v ⟨true,false,0,128,0,0,1,1⟩) := by
 rw [callRO_K fn432]
 simp -implicitDefEqProofs [pureOp,fillV,Sh.v]
theorem sh432_9 : callRO vp 432 [.int .i64 9] = some (Sh.v ⟨true,false,0,128,0,0,1,1⟩) := by
 rw [callRO_K fn432]
 simp -implicitDefEqProofs [pureOp,fillV,Sh.v]
theorem sh432_10 : callRO vp 432 [.int .i64 10] = some (Sh.v ⟨true,true,0,127,0,127,1,1⟩) := by
 rw [callRO_K fn432]
 simp -implicitDefEqProofs [pureOp,fillV,Sh.v]
theorem sh432_11 : callRO vp 432 [.int .i64 11] = some (Sh.v ⟨true,false,1,128,0,0,1,1⟩) := by
 rw [callRO_K fn432]
 simp -implicitDefEqProofs [pureOp,fillV,Sh.v]
theorem sh432_12 : callRO vp 432 [.int .i64 12] = some (Sh.v ⟨false,false,0,0,0,0,2,1⟩) := by
 rw [callRO_K fn432]
 simp -implicitDefEqProofs [pureOp,fillV,Sh.v]
theorem sh432_13 : callRO vp 432 [.int .i64 13] = some (Sh.v ⟨false,false,0,0,0,0,2,1⟩) := by
 rw [callRO_K fn432]
 simp -implicitDefEqProofs [pureOp,fillV,Sh.v]
theorem sh432_14 : callRO vp 432 [.int .i64 14] = some (Sh.v ⟨false,false,0,0,0,0,2,1⟩) := by
 rw [callRO_K fn432]
 simp -implicitDefEqProofs [pureOp,fillV,Sh.v]
theorem sh432_15 : callRO vp 432 [.int .i64 15] = some (Sh.v ⟨false,false,0,0,0,0,2,1⟩) := by
 rw [callRO_K fn432]
 simp -implicitDefEqProofs [pureOp,fillV,Sh.v]
theorem sh432_16 : callRO vp 432 [.int .i64 16] = some (Sh.v ⟨false,false,0,0,0,0,2,1⟩) := by
 rw [callRO_K fn432]
 simp -implicitDefEqProofs [pureOp,fillV,Sh.v]
theorem sh432_17 : callRO vp 432 [.int .i64 17] = some (Sh.v ⟨false,false,0,0,0,0,2,1⟩) := by
 rw [callRO_K fn432]
 simp -implicitDefEqProofs [pureOp,fillV,Sh.v]
theorem sh432_18 : callRO vp 432 [.int .i64 18] = some (Sh.v ⟨false,false,0,0,0,0,2,1⟩) := by
 rw [callRO_K fn432]
 simp -implicitDefEqProofs [pureOp,fillV,Sh.v]
theorem sh432_19 : callRO vp 432 [.int .i64 19] = some (Sh.v ⟨false,false,0,0,0,0,2,1⟩) := by
 rw [callRO_K fn432]
 simp -implicitDefEqProofs [pureOp,fillV,Sh.v]
theorem sh432_20 : callRO vp 432 [.int .i64 20] = some (Sh.v ⟨false,false,0,0,0,0,2,1⟩) := by
 rw [callRO_K fn432]
 simp -implicitDefEqProofs [pureOp,fillV,Sh.v]
theorem sh432_21 : callRO vp 432 [.int .i64 21] = some (Sh.v ⟨false,false,0,0,0,0,2,1⟩) := by
 rw [callRO_K fn432]
 simp -implicitDefEqProofs [pureOp,fillV,Sh.v]
theorem sh432_22 : callRO vp 432 [.int .i64 22] = some (Sh.v ⟨true,true,0,31,0,15,1,0⟩) := by
 rw [callRO_K fn432]
 simp -implicitDefEqProofs [pureOp,fillV,Sh.v]
theorem sh432_23 : callRO vp 432 [.int .i64 23] = some (Sh.v ⟨true,false,0,23,0,0,1,0⟩) := by
 rw [callRO_K fn432]
 simp -implicitDefEqProofs [pureOp,fillV,Sh.v]
theorem sh432_24 : callRO vp 432 [.int .i64 24] = some (Sh.v ⟨true,false,0,7,0,0,2,0⟩) := by
 rw [callRO_K fn432]
 simp -implicitDefEqProofs [pureOp,fillV,Sh.v]
theorem sh432_25 : callRO vp 432 [.int .i64 25] = some (Sh.v ⟨true,false,0,31,0,0,0,0⟩) := by
 rw [callRO_K fn432]
 simp -implicitDefEqProofs [pureOp,fillV,Sh.v]
theorem sh432_26 : callRO vp 432 [.int .i64 26] = some (Sh.v ⟨true,false,0,31,0,0,0,0⟩) := by
 rw [callRO_K fn432]
 simp -implicitDefEqProofs [pureOp,fillV,Sh.v]
theorem sh432_27 : callRO vp 432 [.int .i64 27] = some (Sh.v ⟨true,true,0,15,1,4,0,0⟩) := by
 rw [callRO_K fn432]
 simp -implicitDefEqProofs [pureOp,fillV,Sh.v]
theorem sh432_28 : callRO vp 432 [.int .i64 28] = some (Sh.v ⟨true,true,0,15,1,4,0,0⟩) := by
 rw [callRO_K fn432]
 simp -implicitDefEqProofs [pureOp,fillV,Sh.v]
theorem sh432_29 : callRO vp 432 [.int .i64 29] = some (Sh.v ⟨true,false,0,7,0,0,1,0⟩) := by
 rw [callRO_K fn432]
 simp -implicitDefEqProofs [pureOp,fillV,Sh.v]
theorem sh432_30 : callRO vp 432 [.int .i64 30] = some (Sh.v ⟨true,false,0,7,0,0,1,1⟩) := by
 rw [callRO_K fn432]
 simp -implicitDefEqProofs [pureOp,fillV,Sh.v]
theorem sh432_31 : callRO vp 432 [.int .i64 31] = some (Sh.v ⟨true,false,0,64,0,0,0,0⟩) := by
 rw [callRO_K fn432]
 simp -implicitDefEqProofs [pureOp,fillV,Sh.v]
theorem sh432_32 : callRO vp 432 [.int .i64 32] = some (Sh.v ⟨true,false,0,64,0,0,1,0⟩) := by
 rw [callRO_K fn432]
 simp -implicitDefEqProofs [pureOp,fillV,Sh.v]
theorem sh432_33 : callRO vp 432 [.int .i64 33] = some (Sh.v ⟨true,true,0,31,0,64,0,0⟩) := by
 rw [callRO_K fn432]
 simp -implicitDefEqProofs [pureOp,fillV,Sh.v]
theorem sh432_34 : callRO vp 432 [.int .i64 34] = some (Sh.v ⟨false,false,0,0,0,0,0,0⟩) := by
 rw [callRO_K fn432]
 simp -implicitDefEqProofs [pureOp,fillV,Sh.v]
theorem shape432 (o : Int) {s : Sh} (h : getI shapes o = some s) : callRO vp 432 [.int .i64 o] = some s.v := by
 have hb : 0 ≤ o ∧ o < 35 := by
  rcases getI_cases shapes o with ⟨a,h0,h1,_⟩ | ⟨_,h1⟩
  ·exact ⟨h0,h1⟩
  ·rw [h1] at h; simp at h
 rcases ops_cases hb.1 hb.2 with rfl | rfl | rfl | rfl | rfl | rfl | rfl | rfl | rfl | rfl | rfl | rfl | rfl | rfl | rfl | rfl | rfl | rfl | rfl | rfl | rfl | rfl | rfl | rfl | rfl | rfl | rfl | rfl | rfl | rfl | rfl | rfl | rfl | rfl | rfl
 ·obtain rfl : ⟨false,false,0,0,0,0,0,1⟩ = s := by simpa [getI,shapes] using h
  exact sh432_0
 ·obtain rfl : ⟨true,true,0,31,0,15,0,1⟩ = s := by simpa [getI,shapes] using h
  exact sh432_1
 ·obtain rfl : ⟨true,false,0,23,0,0,0,1⟩ = s := by simpa [getI,shapes] using h
  exact sh432_2
 ·obtain rfl : ⟨true,false,0,7,0,0,0,1⟩ = s := by simpa [getI,shapes] using h
  exact sh432_3
 ·obtain rfl : ⟨true,false,0,31,0,0,0,1⟩ = s := by simpa [getI,shapes] using h
  exact sh432_4
 ·obtain rfl : ⟨true,false,0,7,0,0,1,1⟩ = s := by simpa [getI,shapes] using h
  exact sh432_5
 ·obtain rfl : ⟨false,false,0,0,0,0,1,1⟩ = s := by simpa [getI,shapes] using h
  exact sh432_6
 ·obtain rfl : ⟨false,false,0,0,0,0,1,1⟩ = s := by simpa [getI,shapes] using h
  exact sh432_7
 ·obtain rfl : ⟨true,false,0,128,0,0,1,1⟩ = s := by simpa [getI,shapes] using h
  exact sh432_8
 ·obtain rfl : ⟨true,false,0,128,0,0,1,1⟩ = s := by simpa [getI,shapes] using h
  exact sh432_9
 ·obtain rfl : ⟨true,true,0,127,0,127,1,1⟩ = s := by simpa [getI,shapes] using h
  exact sh432_10
 ·obtain rfl : ⟨true,false,1,128,0,0,1,1⟩ = s := by simpa [getI,shapes] using h
  exact sh432_11
 ·obtain rfl : ⟨false,false,0,0,0,0,2,1⟩ = s := by simpa [getI,shapes] using h
  exact sh432_12
 ·obtain rfl : ⟨false,false,0,0,0,0,2,1⟩ = s := by simpa [getI,shapes] using h
  exact sh432_13
 ·obtain rfl : ⟨false,false,0,0,0,0,2,1⟩ = s := by simpa [getI,shapes] using h
  exact sh432_14
 ·obtain rfl : ⟨false,false,0,0,0,0,2,1⟩ = s := by simpa [getI,shapes] using h
  exact sh432_15
 ·obtain rfl : ⟨false,false,0,0,0,0,2,1⟩ = s := by simpa [getI,shapes] using h
  exact sh432_16
 ·obtain rfl : ⟨false,false,0,0,0,0,2,1⟩ = s := by simpa [getI,shapes] using h
  exact sh432_17
 ·obtain rfl : ⟨false,false,0,0,0,0,2,1⟩ = s := by simpa [getI,shapes] using h
  exact sh432_18
 ·obtain rfl : ⟨false,false,0,0,0,0,2,1⟩ = s := by simpa [getI,shapes] using h
  exact sh432_19
 ·obtain rfl : ⟨false,false,0,0,0,0,2,1⟩ = s := by simpa [getI,shapes] using h
  exact sh432_20
 ·obtain rfl : ⟨false,false,0,0,0,0,2,1⟩ = s := by simpa [getI,shapes] using h
  exact sh432_21
 ·obtain rfl : ⟨true,true,0,31,0,15,1,0⟩ = s := by simpa [getI,shapes] using h
  exact sh432_22
 ·obtain rfl : ⟨true,false,0,23,0,0,1,0⟩ = s := by simpa [getI,shapes] using h
  exact sh432_23
 ·obtain rfl : ⟨true,false,0,7,0,0,2,0⟩ = s := by simpa [getI,shapes] using h
  exact sh432_24
 ·obtain rfl : ⟨true,false,0,31,0,0,0,0⟩ = s := by simpa [getI,shapes] using h
  exact sh432_25
 ·obtain rfl : ⟨true,false,0,31,0,0,0,0⟩ = s := by simpa [getI,shapes] using h
  exact sh432_26
 ·obtain rfl : ⟨true,true,0,15,1,4,0,0⟩ = s := by simpa [getI,shapes] using h
  exact sh432_27
 ·obtain rfl : ⟨true,true,0,15,1,4,0,0⟩ = s := by simpa [getI,shapes] using h
  exact sh432_28
 ·obtain rfl : ⟨true,false,0,7,0,0,1,0⟩ = s := by simpa [getI,shapes] using h
  exact sh432_29
 ·obtain rfl : ⟨true,false,0,7,0,0,1,1⟩ = s := by simpa [getI,shapes] using h
  exact sh432_30
 ·obtain rfl : ⟨true,false,0,64,0,0,0,0⟩ = s := by simpa [getI,shapes] using h
  exact sh432_31
 ·obtain rfl : ⟨true,false,0,64,0,0,1,0⟩ = s := by simpa [getI,shapes] using h
  exact sh432_32
 ·obtain rfl : ⟨true,true,0,31,0,64,0,0⟩ = s := by simpa [getI,shapes] using h
  exact sh432_33
 ·obtain rfl : ⟨false,false,0,0,0,0,0,0⟩ = s := by simpa [getI,shapes] using h
  exact sh432_34
end Go.VE.Un
namespace Go.VE
theorem buildSl_one (n k : Nat) (v : V) (hc : v.cells.length = n) (ho : okV v = true) (fr : Fr) (e : lk fr k = v) : pureOp fr (.buildSl n [.t k]) = some (.sl n [v] .ce) := by
 rw [buildSl_eq fr n [.t k] (by simp only [List.map,opd,e,List.all,hc,ho]; simp)]
 simp only [List.map,opd,e]
@[simp] theorem cb_slnl (z : Nat) : closedB (.sl z [] .nl) = true := nr rfl
end Go.VE
namespace Go.VE.Un
open Go.VE
set_option linter.unusedVariables false
set_option linter.unusedSimpArgs false
def mayC (x : Ins) : Int :=
  match getI shapes x.Op.n with
  | none => 10
  | some s => if inB x.A.n s.fr s.to = false ∨ inB x.B.n s.least s.most = false ∨ (x.Op.n = 10 ∧ x.A.n < x.B.n) then 7
    else if (x.Op.n = 0 ∧ x.V.good = false) ∨ (x.Op.n ≠ 0 ∧ x.V.same Vec.z = false) then 1 else 0
theorem may425 (x : Ins) : callRO vp 425 [x.v] = some (.int .i64 (mayC x)) := by
 rcases getI_cases shapes x.Op.n with ⟨s,h0,h1,hg⟩ | ⟨h0,hg⟩
 ·have h1 : x.Op.n < 35 := h1
  have hs := shape432 _ hg
  have hm : mayC x = if inB x.A.n s.fr s.to = false ∨ inB x.B.n s.least s.most = false ∨ (x.Op.n = 10 ∧ x.A.n < x.B.n) then 7
   else if (x.Op.n = 0 ∧ x.V.good = false) ∨ (x.Op.n ≠ 0 ∧ x.V.same Vec.z = false) then 1 else 0 := by simp only [mayC,hg]
  rw [callRO_K fn425,hm]
  clear hm hg
  by_cases c1 : (decide (s.fr ≤ x.A.n) && decide (x.A.n ≤ s.to)) = true
  ·by_cases c2 : (decide (s.least ≤ x.B.n) && decide (x.B.n ≤ s.most)) = true
   ·have hc : (x.Op.n = 10 ∧ x.A.n < x.B.n) ∨ ((x.Op.n = 10) = False) ∨ ((x.Op.n = 10) = True ∧ (x.A.n < x.B.n) = False) := by
     by_cases a : x.Op.n = 10 <;> by_cases b : x.A.n < x.B.n <;> simp [a,b]
    have h3 : ∀ {c d : Prop},(c = True) → d → c := fun h _ => h ▸ trivial
    rcases hc with ⟨c3,c4⟩ | hc | ⟨hc,hc2⟩
    ·have c3' : (x.Op.n = 10) = True := eq_true c3
     simp -implicitDefEqProofs [h0,h1,hs,c1,c2,c3',c4,inB]
    ·by_cases c5 : x.Op.n = 0
     ·have c5' : (x.Op.n = 0) = True := eq_true c5
      by_cases c6 : x.V.good = true
      ·simp -implicitDefEqProofs [h0,h1,hs,c1,c2,hc,c5',c6,inB]
      ·simp -implicitDefEqProofs [h0,h1,hs,c1,c2,hc,c5',c6,inB]
     ·by_cases c6 : x.V.same Vec.z = true
      ·simp -implicitDefEqProofs [h0,h1,hs,c1,c2,hc,c5,c6,inB,pureOp,fillV,vec0]
      ·simp -implicitDefEqProofs [h0,h1,hs,c1,c2,hc,c5,c6,inB,pureOp,fillV,vec0]
    ·have c5 : (x.Op.n = 0) = False := eq_false (by have := of_eq_true hc; omega)
     by_cases c6 : x.V.same Vec.z = true
     ·simp -implicitDefEqProofs [h0,h1,hs,c1,c2,hc,hc2,c5,c6,inB,pureOp,fillV,vec0]
     ·simp -implicitDefEqProofs [h0,h1,hs,c1,c2,hc,hc2,c5,c6,inB,pureOp,fillV,vec0]
   ·simp only [Bool.not_eq_true] at c2
    simp -implicitDefEqProofs [h0,h1,hs,c1,c2,inB]
  ·simp only [Bool.not_eq_true] at c1
   simp -implicitDefEqProofs [h0,h1,hs,c1,inB]
 ·have hk : (decide (0 ≤ x.Op.n) && decide (x.Op.n < 35)) = false := by
   have : shapes.length = 35 := rfl
   rw [this] at h0; simp; omega
  rw [callRO_K fn425]
  simp -implicitDefEqProofs [hk,hg,mayC]
attribute [simp] may425
theorem mayC_op {x : Ins} (h : mayC x = 0) : 0 ≤ x.Op.n ∧ x.Op.n < 35 := by
 rcases getI_cases shapes x.Op.n with ⟨s,h0,h1,hg⟩ | ⟨h0,hg⟩
 ·exact ⟨h0,h1⟩
 ·simp [mayC,hg] at h
def stepV (x : Ins) : V :=
 match (getI kinds x.Op.n).getD 0 with
 | 282 => .iface 282 x.V.v
 | 281 => .iface 281 (.agg [.int .i64 x.Op.n,.int .i64 x.A.n,.int .i64 x.B.n])
 | 275 => .iface 275 (.agg [.int .i64 x.Op.n,.int .i64 x.A.n])
 | 283 => .iface 283 (.agg [.int .i64 x.Op.n,.int .i64 x.A.n])
 | 279 => .iface 279 (.agg [.int .i64 x.Op.n,.int .i64 x.A.n])
 | 280 => .iface 280 (.agg [.int .i64 x.A.n,.int .i64 x.B.n])
 | 277 => .iface 277 (.agg [.int .i64 x.Op.n,.int .i64 x.A.n,.int .i64 x.B.n])
 | 278 => .iface 278 (.agg [.int .i64 x.Op.n,.int .i64 x.A.n])
 | 276 => .iface 276 (.agg [.int .i64 x.A.n,.int .i64 x.B.n])
 | 285 => .iface 285 (.agg [])
 | _ => .iface 286 (.agg [.int .i64 x.Op.n])
@[simp] theorem step_below (k : Nat) (x : Ins) : belowB k (stepV x) = true := by
 unfold stepV; split <;> simp
@[simp] theorem step_closed (x : Ins) : closedB (stepV x) = true := by
 unfold stepV; split <;> simp
@[simp] theorem step_ok (x : Ins) : okV (stepV x) = true := by
 unfold stepV; split <;> rfl
@[simp high] theorem step_cells (x : Ins) : (stepV x).cells = [stepV x] := by
 unfold stepV; split <;> rfl
theorem make424 (x : Ins) (h : mayC x = 0) : callRO vp 424 [x.v] = some (.tup [stepV x,.int .i64 0]) := by
 obtain ⟨h0,h1⟩ := mayC_op h
 rw [callRO_K fn424]
 generalize he : x.Op.n = o at h0 h1
 rcases ops_cases h0 h1 with rfl | rfl | rfl | rfl | rfl | rfl | rfl | rfl | rfl | rfl | rfl | rfl | rfl | rfl | rfl | rfl | rfl | rfl | rfl | rfl | rfl | rfl | rfl | rfl | rfl | rfl | rfl | rfl | rfl | rfl | rfl | rfl | rfl | rfl | rfl
 ·have hv : x.V.v.cells = [.int .i64 x.V.W.n,.int .u64 x.V.Hi.n,.int .u64 x.V.Lo.n] := rfl
  simp -implicitDefEqProofs [h,he,stepV,getI,kinds,pureOp,fillV,Vec.v_eq]
 all_goals simp -implicitDefEqProofs [h,he,stepV,getI,kinds,pureOp,fillV]
theorem make424' (x : Ins) (h : mayC x ≠ 0) : callRO vp 424 [x.v] = some (.tup [.nili,.int .i64 (mayC x)]) := by
 rw [callRO_K fn424]
 simp -implicitDefEqProofs [h]
def targetB (x : Ins) : Option Int := if x.Op.n = 31 ∨ x.Op.n = 32 then some x.A.n else if x.Op.n = 33 then some x.B.n else none
theorem target427 (x : Ins) (h : mayC x = 0) : callRO vp 427 [stepV x] = some (.tup [.int .i64 ((targetB x).getD 0),.bool (targetB x).isSome]) := by
 obtain ⟨h0,h1⟩ := mayC_op h
 rw [callRO_K fn427]
 generalize he : x.Op.n = o at h0 h1
 rcases ops_cases h0 h1 with rfl | rfl | rfl | rfl | rfl | rfl | rfl | rfl | rfl | rfl | rfl | rfl | rfl | rfl | rfl | rfl | rfl | rfl | rfl | rfl | rfl | rfl | rfl | rfl | rfl | rfl | rfl | rfl | rfl | rfl | rfl | rfl | rfl | rfl | rfl
 all_goals simp -implicitDefEqProofs [he,stepV,getI,kinds,targetB]
def codeE : List Ins → Int → Option (Int × Int)
 | [],_ => none
 | x :: r,i => if mayC x = 0 then codeE r (i + 1) else some (i,mayC x)
theorem loop422 (l : GL Ins) (hl : l.l.length ≤ 64) (src : V) (hsrc : belowB 1 src = true) : ∀ (r : List Ins) (k : Int) (es : List V), 0 ≤ k → k ≤ l.l.length → l.l.drop k.toNat = r → es.length = k.toNat → belowL 1 es = true →
    ∃ hh, (orc vp).loop 0 [0, 5, 14, 15, 16] L422_0 [(0, src), (5, .gsl 0 es.length 1 0 es.length), (14, GL.v 6 Ins.v l), (15, .int .i64 l.l.length), (16, .int .i64 k)] [.arr es] =
     (match codeE r k with
      | none => some (.brk 0, [(0, src), (5, .gsl 0 (es ++ r.map stepV).length 1 0 (es ++ r.map stepV).length), (14, GL.v 6 Ins.v l), (15, .int .i64 l.l.length), (16, .int .i64 l.l.length), (17, .bool false)], [.arr (es ++ r.map stepV)])
      | some (i, e) => some (.ret, [(2, .sl 1 [] .nl), (3, .int .i64 i), (4, .int .i64 e)], hh)) := by
  intro r
  induction r with
  | nil =>
    intro k es hk hkl hd hn hb
    have hle := drop_nil hk hd
    have hlt : ¬ k < l.l.length := by omega
    have he : k = l.l.length := by omega
    refine ⟨[], ?_⟩
    rw [lp422_0]
    simp -implicitDefEqProofs [hlt, codeE, he]
  | cons x r ih =>
    intro k es hk hkl hd hn hb
    obtain ⟨hg, hlt, hd'⟩ := drop_cons hk hd
    by_cases hm : mayC x = 0
    · have w1 : IntKind.i64.wrap (k + 1) = k + 1 := wrap64 (by omega) (by omega)
      have hb' : belowL 1 (es ++ [stepV x]) = true := belowL_app hb (by simp)
      obtain ⟨hh, ih⟩ := ih (k + 1) (es ++ [stepV x]) (by omega) (by omega) hd' (by simp; omega) hb'
      refine ⟨hh, ?_⟩
      have hmk := make424 x hm
      have ha := appV_0 (lo := 0) (z := 1) (bytes := 16) (es := es) (ns := [stepV x]) (h := [.arr [x.v]]) (by omega) rfl (by simp [roomB]; omega)
      rw [lp422_0]
      simp -implicitDefEqProofs [hlt, hg, hm, w1, hmk, codeE, ha, listOf_sl, buildSl_one 1 31 (stepV x) (by rw [step_cells]; rfl) (step_ok x), gc_app (es := es) (b := .arr [x.v]) vpgc hb', hsrc]
      simpa using ih
    · have hmk := make424' x hm
      refine ⟨[.arr es, .arr [x.v]], ?_⟩
      rw [lp422_0]
      simp -implicitDefEqProofs [hlt, hg, hm, hmk, codeE]
def allC (l : List Ins) : Option (Int × Int) := match codeE (l.take 64) 0 with | some r => some r | none => if 64 < l.length then some (64,2) else none
theorem all422 (l : GL Ins) : callRO vp 422 [GL.v 6 Ins.v l] = some (match allC l.l with
    | none => .tup [.sl 1 (l.l.map stepV) .perm, .int .i64 l.l.length, .int .i64 0]
    | some (i, e) => .tup [.sl 1 [] .nl, .int .i64 i, .int .i64 e]) := by
  have hle := l.le
  rw [callRO_K fn422]
  by_cases h1 : 64 < l.l.length
  · have h1' : (64 : Int) < l.l.length := by omega
    obtain ⟨hh, h⟩ := loop422 (l.take 64) (by simp [GL.take]; omega) (GL.v 6 Ins.v l) (by simp) (l.take 64).l 0 [] (by omega) (by omega) rfl rfl rfl
    have hs := GL.slice_hi 6 Ins.v l .i64 64 (by omega) (by omega) (by omega)
    cases hc : codeE (l.take 64).l 0 with
    | none =>
      rw [hc] at h
      have hc' : codeE (l.l.take 64) 0 = none := hc
      simp -implicitDefEqProofs [h1, h1', hs] at h ⊢
      simp -implicitDefEqProofs [h, allC, hc', h1, h1']
    | some p =>
      obtain ⟨i, e⟩ := p
      rw [hc] at h
      have hc' : codeE (l.l.take 64) 0 = some (i, e) := hc
      simp -implicitDefEqProofs [h1, h1', hs] at h ⊢
      simp -implicitDefEqProofs [h, allC, hc', h1]
  · have h1' : ¬ (64 : Int) < l.l.length := by omega
    obtain ⟨hh, h⟩ := loop422 (l.take l.l.length) (by simp [GL.take]; omega) (GL.v 6 Ins.v l) (by simp) (l.take l.l.length).l 0 [] (by omega) (by omega) rfl rfl rfl
    have hs := GL.slice_hi 6 Ins.v l .i64 l.l.length (by omega) (by omega) (by omega)
    have ht : (l.take l.l.length).l = l.l := by simp [GL.take]
    have ht' : l.l.take 64 = l.l := List.take_of_length_le (by omega)
    rw [ht] at h
    have hst : closedL (l.l.map stepV) = true := by rw [closedL_map]; simp
    have hmin : foldV (fun a b => if b < a then b else a) [.int .i64 l.l.length, .int .i64 64] = some (.int .i64 l.l.length) := by
      rw [fold_two]; rw [if_neg (by omega)]
    cases hc : codeE l.l 0 with
    | none =>
      rw [hc] at h
      simp -implicitDefEqProofs only [List.nil_append, List.length_nil, List.length_map] at h
      simp -implicitDefEqProofs [h1, h1', hs, hmin, h, allC, hc, ht', optL_closed hst]
    | some p =>
      obtain ⟨i, e⟩ := p
      rw [hc] at h
      simp -implicitDefEqProofs only [List.nil_append, List.length_nil, List.length_map] at h
      simp -implicitDefEqProofs [h1, h1', hs, hmin, h, allC, hc, ht']
end Go.VE.Un
