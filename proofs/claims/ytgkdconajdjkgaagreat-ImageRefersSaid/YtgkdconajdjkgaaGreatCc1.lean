/- Joined texts: CtE. No condition: what each theorem needs stands in it. -/
import Derived.Test.YtgkdconajdjkgaaGreatCc0
/- Contracts: the names of an image's parts. Printed by a program. -/
namespace Go.VE.Un
open Go.VE
set_option linter.unusedVariables false
set_option linter.unusedSimpArgs false

def strV (s : GS) : VE.V := .str s.s
@[simp] theorem strV_below (k : Nat) (s : GS) : belowB k (strV s) = true := nr rfl
@[simp] theorem strV_closed (s : GS) : closedB (strV s) = true := nr rfl
/-- Lists that memory holds. -/
structure Held (m : Image) : Prop where
  hHeaders : m.Headers.l.length ≤ 5900000000000
  hMetas : m.Metas.l.length ≤ 5900000000000
  hStates : m.States.l.length ≤ 5900000000000
  hActions : m.Actions.l.length ≤ 5900000000000
  hTables : m.Tables.l.length ≤ 5900000000000
  hRegs : m.Regs.l.length ≤ 5900000000000
  hCounters : m.Counters.l.length ≤ 5900000000000
  hMeters : m.Meters.l.length ≤ 5900000000000

theorem loop836_7 (m : Image) (hm : Held m) : ∀ (r : List Header) (k : Int) (es : List V), 0 ≤ k → k ≤ m.Headers.l.length → m.Headers.l.drop k.toNat = r → es.length = k →
    (orc vp).loop 0 [1, 2, 5, 6] L836_7 [(1, .int .i64 1), (2, .ptr 0 1 0 0), (5, .gsl 1 es.length 1 0 es.length), (6, .int .i64 k)] [.arr [m.v], .arr es] =
     some (.brk 0, [(1, .int .i64 1), (2, .ptr 0 1 0 0), (5, .gsl 1 (es ++ r.map fun y => strV y.Name).length 1 0 (es ++ r.map fun y => strV y.Name).length), (6, .int .i64 m.Headers.l.length), (22, .bool false)], [.arr [m.v], .arr (es ++ r.map fun y => strV y.Name)]) := by
  intro r
  induction r with
  | nil =>
    intro k es hk hkl hd hr
    have hle := drop_nil hk hd
    have hlt : ¬ k < m.Headers.l.length := by omega
    have he : k = m.Headers.l.length := by omega
    rw [lp836_7]
    simp -implicitDefEqProofs [l836_7, hlt, he]
  | cons y r ih =>
    intro k es hk hkl hd hr
    obtain ⟨hg, hlt, hd'⟩ := drop_cons hk hd
    have hb := hm.hHeaders
    have w1 : IntKind.i64.wrap (k + 1) = k + 1 := wrap64 (by omega) (by omega)
    have hi := ih (k + 1) (es ++ [strV y.Name]) (by omega) (by omega) hd' (by simp; omega)
    have ha : appV 0 [.arr [m.v], .arr es] 1 16 (.gsl 1 es.length 1 0 es.length) [.str y.Name.s] = some (.gsl 1 (es.length + 1) 1 0 (es.length + 1), [.arr [m.v], .arr (es ++ [.str y.Name.s])]) :=
      appV_1 (Nat.zero_le _) rfl (by simp [roomB]; omega)
    rw [lp836_7]
    simp -implicitDefEqProofs [strV] at hi
    simp -implicitDefEqProofs [l836_7, hlt, buildSl_eq, listOf_sl, ha, w1, hi, hg, strV]
theorem skip836_7 (m : Image) (p : Int) (hp : ¬ p = 1) (es : List V) :
    (orc vp).loop 0 [1, 2, 5, 6] L836_7 [(1, .int .i64 p), (2, .ptr 0 1 0 0), (5, .gsl 1 es.length 1 0 es.length), (6, .int .i64 0)] [.arr [m.v], .arr es] =
     some (.brk 0, [(1, .int .i64 p), (2, .ptr 0 1 0 0), (5, .gsl 1 es.length 1 0 es.length), (6, .int .i64 0), (22, .bool false)], [.arr [m.v], .arr es]) := by
  rw [lp836_7]
  by_cases h : 0 < m.Headers.l.length <;> simp -implicitDefEqProofs [l836_7, hp, h]

theorem loop836_6 (m : Image) (hm : Held m) : ∀ (r : List Field) (k : Int) (es : List V), 0 ≤ k → k ≤ m.Metas.l.length → m.Metas.l.drop k.toNat = r → es.length = k →
    (orc vp).loop 0 [1, 2, 5, 7] L836_6 [(1, .int .i64 3), (2, .ptr 0 1 0 0), (5, .gsl 1 es.length 1 0 es.length), (7, .int .i64 k)] [.arr [m.v], .arr es] =
     some (.brk 2, [(1, .int .i64 3), (2, .ptr 0 1 0 0), (5, .gsl 1 (es ++ r.map fun y => strV y.Name).length 1 0 (es ++ r.map fun y => strV y.Name).length), (7, .int .i64 m.Metas.l.length), (42, .bool false)], [.arr [m.v], .arr (es ++ r.map fun y => strV y.Name)]) := by
  intro r
  induction r with
  | nil =>
    intro k es hk hkl hd hr
    have hle := drop_nil hk hd
    have hlt : ¬ k < m.Metas.l.length := by omega
    have he : k = m.Metas.l.length := by omega
    rw [lp836_6]
    simp -implicitDefEqProofs [l836_6, hlt, he]
  | cons y r ih =>
    intro k es hk hkl hd hr
    obtain ⟨hg, hlt, hd'⟩ := drop_cons hk hd
    have hb := hm.hMetas
    have w1 : IntKind.i64.wrap (k + 1) = k + 1 := wrap64 (by omega) (by omega)
    have hi := ih (k + 1) (es ++ [strV y.Name]) (by omega) (by omega) hd' (by simp; omega)
    have ha : appV 0 [.arr [m.v], .arr es] 1 16 (.gsl 1 es.length 1 0 es.length) [.str y.Name.s] = some (.gsl 1 (es.length + 1) 1 0 (es.length + 1), [.arr [m.v], .arr (es ++ [.str y.Name.s])]) :=
      appV_1 (Nat.zero_le _) rfl (by simp [roomB]; omega)
    rw [lp836_6]
    simp -implicitDefEqProofs [strV] at hi
    simp -implicitDefEqProofs [l836_6, hlt, buildSl_eq, listOf_sl, ha, w1, hi, hg, strV]
theorem skip836_6 (m : Image) (p : Int) (hp : ¬ p = 3) (es : List V) :
    (orc vp).loop 0 [1, 2, 5, 7] L836_6 [(1, .int .i64 p), (2, .ptr 0 1 0 0), (5, .gsl 1 es.length 1 0 es.length), (7, .int .i64 0)] [.arr [m.v], .arr es] =
     some (.brk 2, [(1, .int .i64 p), (2, .ptr 0 1 0 0), (5, .gsl 1 es.length 1 0 es.length), (7, .int .i64 0), (42, .bool false)], [.arr [m.v], .arr es]) := by
  rw [lp836_6]
  by_cases h : 0 < m.Metas.l.length <;> simp -implicitDefEqProofs [l836_6, hp, h]

theorem loop836_5 (m : Image) (hm : Held m) : ∀ (r : List State) (k : Int) (es : List V), 0 ≤ k → k ≤ m.States.l.length → m.States.l.drop k.toNat = r → es.length = k →
    (orc vp).loop 0 [1, 2, 5, 8] L836_5 [(1, .int .i64 4), (2, .ptr 0 1 0 0), (5, .gsl 1 es.length 1 0 es.length), (8, .int .i64 k)] [.arr [m.v], .arr es] =
     some (.brk 4, [(1, .int .i64 4), (2, .ptr 0 1 0 0), (5, .gsl 1 (es ++ r.map fun y => strV y.Name).length 1 0 (es ++ r.map fun y => strV y.Name).length), (8, .int .i64 m.States.l.length), (62, .bool false)], [.arr [m.v], .arr (es ++ r.map fun y => strV y.Name)]) := by
  intro r
  induction r with
  | nil =>
    intro k es hk hkl hd hr
    have hle := drop_nil hk hd
    have hlt : ¬ k < m.States.l.length := by omega
    have he : k = m.States.l.length := by omega
    rw [lp836_5]
    simp -implicitDefEqProofs [l836_5, hlt, he]
  | cons y r ih =>
    intro k es hk hkl hd hr
    obtain ⟨hg, hlt, hd'⟩ := drop_cons hk hd
    have hb := hm.hStates
    have w1 : IntKind.i64.wrap (k + 1) = k + 1 := wrap64 (by omega) (by omega)
    have hi := ih (k + 1) (es ++ [strV y.Name]) (by omega) (by omega) hd' (by simp; omega)
    have ha : appV 0 [.arr [m.v], .arr es] 1 16 (.gsl 1 es.length 1 0 es.length) [.str y.Name.s] = some (.gsl 1 (es.length + 1) 1 0 (es.length + 1), [.arr [m.v], .arr (es ++ [.str y.Name.s])]) :=
      appV_1 (Nat.zero_le _) rfl (by simp [roomB]; omega)
    rw [lp836_5]
    simp -implicitDefEqProofs [strV] at hi
    simp -implicitDefEqProofs [l836_5, hlt, buildSl_eq, listOf_sl, ha, w1, hi, hg, strV]
theorem skip836_5 (m : Image) (p : Int) (hp : ¬ p = 4) (es : List V) :
    (orc vp).loop 0 [1, 2, 5, 8] L836_5 [(1, .int .i64 p), (2, .ptr 0 1 0 0), (5, .gsl 1 es.length 1 0 es.length), (8, .int .i64 0)] [.arr [m.v], .arr es] =
     some (.brk 4, [(1, .int .i64 p), (2, .ptr 0 1 0 0), (5, .gsl 1 es.length 1 0 es.length), (8, .int .i64 0), (62, .bool false)], [.arr [m.v], .arr es]) := by
  rw [lp836_5]
  by_cases h : 0 < m.States.l.length <;> simp -implicitDefEqProofs [l836_5, hp, h]

theorem loop836_4 (m : Image) (hm : Held m) : ∀ (r : List Action) (k : Int) (es : List V), 0 ≤ k → k ≤ m.Actions.l.length → m.Actions.l.drop k.toNat = r → es.length = k →
    (orc vp).loop 0 [1, 2, 5, 9] L836_4 [(1, .int .i64 5), (2, .ptr 0 1 0 0), (5, .gsl 1 es.length 1 0 es.length), (9, .int .i64 k)] [.arr [m.v], .arr es] =
     some (.brk 6, [(1, .int .i64 5), (2, .ptr 0 1 0 0), (5, .gsl 1 (es ++ r.map fun y => strV y.Name).length 1 0 (es ++ r.map fun y => strV y.Name).length), (9, .int .i64 m.Actions.l.length), (82, .bool false)], [.arr [m.v], .arr (es ++ r.map fun y => strV y.Name)]) := by
  intro r
  induction r with
  | nil =>
    intro k es hk hkl hd hr
    have hle := drop_nil hk hd
    have hlt : ¬ k < m.Actions.l.length := by omega
    have he : k = m.Actions.l.length := by omega
    rw [lp836_4]
    simp -implicitDefEqProofs [l836_4, hlt, he]
  | cons y r ih =>
    intro k es hk hkl hd hr
    obtain ⟨hg, hlt, hd'⟩ := drop_cons hk hd
    have hb := hm.hActions
    have w1 : IntKind.i64.wrap (k + 1) = k + 1 := wrap64 (by omega) (by omega)
    have hi := ih (k + 1) (es ++ [strV y.Name]) (by omega) (by omega) hd' (by simp; omega)
    have ha : appV 0 [.arr [m.v], .arr es] 1 16 (.gsl 1 es.length 1 0 es.length) [.str y.Name.s] = some (.gsl 1 (es.length + 1) 1 0 (es.length + 1), [.arr [m.v], .arr (es ++ [.str y.Name.s])]) :=
      appV_1 (Nat.zero_le _) rfl (by simp [roomB]; omega)
    rw [lp836_4]
    simp -implicitDefEqProofs [strV] at hi
    simp -implicitDefEqProofs [l836_4, hlt, buildSl_eq, listOf_sl, ha, w1, hi, hg, strV]
theorem skip836_4 (m : Image) (p : Int) (hp : ¬ p = 5) (es : List V) :
    (orc vp).loop 0 [1, 2, 5, 9] L836_4 [(1, .int .i64 p), (2, .ptr 0 1 0 0), (5, .gsl 1 es.length 1 0 es.length), (9, .int .i64 0)] [.arr [m.v], .arr es] =
     some (.brk 6, [(1, .int .i64 p), (2, .ptr 0 1 0 0), (5, .gsl 1 es.length 1 0 es.length), (9, .int .i64 0), (82, .bool false)], [.arr [m.v], .arr es]) := by
  rw [lp836_4]
  by_cases h : 0 < m.Actions.l.length <;> simp -implicitDefEqProofs [l836_4, hp, h]

theorem loop836_3 (m : Image) (hm : Held m) : ∀ (r : List Table) (k : Int) (es : List V), 0 ≤ k → k ≤ m.Tables.l.length → m.Tables.l.drop k.toNat = r → es.length = k →
    (orc vp).loop 0 [1, 2, 5, 10] L836_3 [(1, .int .i64 6), (2, .ptr 0 1 0 0), (5, .gsl 1 es.length 1 0 es.length), (10, .int .i64 k)] [.arr [m.v], .arr es] =
     some (.brk 8, [(1, .int .i64 6), (2, .ptr 0 1 0 0), (5, .gsl 1 (es ++ r.map fun y => strV y.Name).length 1 0 (es ++ r.map fun y => strV y.Name).length), (10, .int .i64 m.Tables.l.length), (102, .bool false)], [.arr [m.v], .arr (es ++ r.map fun y => strV y.Name)]) := by
  intro r
  induction r with
  | nil =>
    intro k es hk hkl hd hr
    have hle := drop_nil hk hd
    have hlt : ¬ k < m.Tables.l.length := by omega
    have he : k = m.Tables.l.length := by omega
    rw [lp836_3]
    simp -implicitDefEqProofs [l836_3, hlt, he]
  | cons y r ih =>
    intro k es hk hkl hd hr
    obtain ⟨hg, hlt, hd'⟩ := drop_cons hk hd
    have hb := hm.hTables
    have w1 : IntKind.i64.wrap (k + 1) = k + 1 := wrap64 (by omega) (by omega)
    have hi := ih (k + 1) (es ++ [strV y.Name]) (by omega) (by omega) hd' (by simp; omega)
    have ha : appV 0 [.arr [m.v], .arr es] 1 16 (.gsl 1 es.length 1 0 es.length) [.str y.Name.s] = some (.gsl 1 (es.length + 1) 1 0 (es.length + 1), [.arr [m.v], .arr (es ++ [.str y.Name.s])]) :=
      appV_1 (Nat.zero_le _) rfl (by simp [roomB]; omega)
    rw [lp836_3]
    simp -implicitDefEqProofs [strV] at hi
    simp -implicitDefEqProofs [l836_3, hlt, buildSl_eq, listOf_sl, ha, w1, hi, hg, strV]
theorem skip836_3 (m : Image) (p : Int) (hp : ¬ p = 6) (es : List V) :
    (orc vp).loop 0 [1, 2, 5, 10] L836_3 [(1, .int .i64 p), (2, .ptr 0 1 0 0), (5, .gsl 1 es.length 1 0 es.length), (10, .int .i64 0)] [.arr [m.v], .arr es] =
     some (.brk 8, [(1, .int .i64 p), (2, .ptr 0 1 0 0), (5, .gsl 1 es.length 1 0 es.length), (10, .int .i64 0), (102, .bool false)], [.arr [m.v], .arr es]) := by
  rw [lp836_3]
  by_cases h : 0 < m.Tables.l.length <;> simp -implicitDefEqProofs [l836_3, hp, h]

theorem loop836_2 (m : Image) (hm : Held m) : ∀ (r : List Reg) (k : Int) (es : List V), 0 ≤ k → k ≤ m.Regs.l.length → m.Regs.l.drop k.toNat = r → es.length = k →
    (orc vp).loop 0 [1, 2, 5, 11] L836_2 [(1, .int .i64 12), (2, .ptr 0 1 0 0), (5, .gsl 1 es.length 1 0 es.length), (11, .int .i64 k)] [.arr [m.v], .arr es] =
     some (.brk 10, [(1, .int .i64 12), (2, .ptr 0 1 0 0), (5, .gsl 1 (es ++ r.map fun y => strV y.Name).length 1 0 (es ++ r.map fun y => strV y.Name).length), (11, .int .i64 m.Regs.l.length), (122, .bool false)], [.arr [m.v], .arr (es ++ r.map fun y => strV y.Name)]) := by
  intro r
  induction r with
  | nil =>
    intro k es hk hkl hd hr
    have hle := drop_nil hk hd
    have hlt : ¬ k < m.Regs.l.length := by omega
    have he : k = m.Regs.l.length := by omega
    rw [lp836_2]
    simp -implicitDefEqProofs [l836_2, hlt, he]
  | cons y r ih =>
    intro k es hk hkl hd hr
    obtain ⟨hg, hlt, hd'⟩ := drop_cons hk hd
    have hb := hm.hRegs
    have w1 : IntKind.i64.wrap (k + 1) = k + 1 := wrap64 (by omega) (by omega)
    have hi := ih (k + 1) (es ++ [strV y.Name]) (by omega) (by omega) hd' (by simp; omega)
    have ha : appV 0 [.arr [m.v], .arr es] 1 16 (.gsl 1 es.length 1 0 es.length) [.str y.Name.s] = some (.gsl 1 (es.length + 1) 1 0 (es.length + 1), [.arr [m.v], .arr (es ++ [.str y.Name.s])]) :=
      appV_1 (Nat.zero_le _) rfl (by simp [roomB]; omega)
    rw [lp836_2]
    simp -implicitDefEqProofs [strV] at hi
    simp -implicitDefEqProofs [l836_2, hlt, buildSl_eq, listOf_sl, ha, w1, hi, hg, strV]
theorem skip836_2 (m : Image) (p : Int) (hp : ¬ p = 12) (es : List V) :
    (orc vp).loop 0 [1, 2, 5, 11] L836_2 [(1, .int .i64 p), (2, .ptr 0 1 0 0), (5, .gsl 1 es.length 1 0 es.length), (11, .int .i64 0)] [.arr [m.v], .arr es] =
     some (.brk 10, [(1, .int .i64 p), (2, .ptr 0 1 0 0), (5, .gsl 1 es.length 1 0 es.length), (11, .int .i64 0), (122, .bool false)], [.arr [m.v], .arr es]) := by
  rw [lp836_2]
  by_cases h : 0 < m.Regs.l.length <;> simp -implicitDefEqProofs [l836_2, hp, h]

theorem loop836_1 (m : Image) (hm : Held m) : ∀ (r : List Counter) (k : Int) (es : List V), 0 ≤ k → k ≤ m.Counters.l.length → m.Counters.l.drop k.toNat = r → es.length = k →
    (orc vp).loop 0 [1, 2, 5, 12] L836_1 [(1, .int .i64 13), (2, .ptr 0 1 0 0), (5, .gsl 1 es.length 1 0 es.length), (12, .int .i64 k)] [.arr [m.v], .arr es] =
     some (.brk 12, [(1, .int .i64 13), (2, .ptr 0 1 0 0), (5, .gsl 1 (es ++ r.map fun y => strV y.Name).length 1 0 (es ++ r.map fun y => strV y.Name).length), (12, .int .i64 m.Counters.l.length), (142, .bool false)], [.arr [m.v], .arr (es ++ r.map fun y => strV y.Name)]) := by
  intro r
  induction r with
  | nil =>
    intro k es hk hkl hd hr
    have hle := drop_nil hk hd
    have hlt : ¬ k < m.Counters.l.length := by omega
    have he : k = m.Counters.l.length := by omega
    rw [lp836_1]
    simp -implicitDefEqProofs [l836_1, hlt, he]
  | cons y r ih =>
    intro k es hk hkl hd hr
    obtain ⟨hg, hlt, hd'⟩ := drop_cons hk hd
    have hb := hm.hCounters
    have w1 : IntKind.i64.wrap (k + 1) = k + 1 := wrap64 (by omega) (by omega)
    have hi := ih (k + 1) (es ++ [strV y.Name]) (by omega) (by omega) hd' (by simp; omega)
    have ha : appV 0 [.arr [m.v], .arr es] 1 16 (.gsl 1 es.length 1 0 es.length) [.str y.Name.s] = some (.gsl 1 (es.length + 1) 1 0 (es.length + 1), [.arr [m.v], .arr (es ++ [.str y.Name.s])]) :=
      appV_1 (Nat.zero_le _) rfl (by simp [roomB]; omega)
    rw [lp836_1]
    simp -implicitDefEqProofs [strV] at hi
    simp -implicitDefEqProofs [l836_1, hlt, buildSl_eq, listOf_sl, ha, w1, hi, hg, strV]
theorem skip836_1 (m : Image) (p : Int) (hp : ¬ p = 13) (es : List V) :
    (orc vp).loop 0 [1, 2, 5, 12] L836_1 [(1, .int .i64 p), (2, .ptr 0 1 0 0), (5, .gsl 1 es.length 1 0 es.length), (12, .int .i64 0)] [.arr [m.v], .arr es] =
     some (.brk 12, [(1, .int .i64 p), (2, .ptr 0 1 0 0), (5, .gsl 1 es.length 1 0 es.length), (12, .int .i64 0), (142, .bool false)], [.arr [m.v], .arr es]) := by
  rw [lp836_1]
  by_cases h : 0 < m.Counters.l.length <;> simp -implicitDefEqProofs [l836_1, hp, h]

theorem loop836_0 (m : Image) (hm : Held m) : ∀ (r : List Meter) (k : Int) (es : List V), 0 ≤ k → k ≤ m.Meters.l.length → m.Meters.l.drop k.toNat = r → es.length = k →
    (orc vp).loop 0 [1, 2, 5, 13] L836_0 [(1, .int .i64 14), (2, .ptr 0 1 0 0), (5, .gsl 1 es.length 1 0 es.length), (13, .int .i64 k)] [.arr [m.v], .arr es] =
     some (.brk 14, [(1, .int .i64 14), (2, .ptr 0 1 0 0), (5, .gsl 1 (es ++ r.map fun y => strV y.Name).length 1 0 (es ++ r.map fun y => strV y.Name).length), (13, .int .i64 m.Meters.l.length), (162, .bool false)], [.arr [m.v], .arr (es ++ r.map fun y => strV y.Name)]) := by
  intro r
  induction r with
  | nil =>
    intro k es hk hkl hd hr
    have hle := drop_nil hk hd
    have hlt : ¬ k < m.Meters.l.length := by omega
    have he : k = m.Meters.l.length := by omega
    rw [lp836_0]
    simp -implicitDefEqProofs [l836_0, hlt, he]
  | cons y r ih =>
    intro k es hk hkl hd hr
    obtain ⟨hg, hlt, hd'⟩ := drop_cons hk hd
    have hb := hm.hMeters
    have w1 : IntKind.i64.wrap (k + 1) = k + 1 := wrap64 (by omega) (by omega)
    have hi := ih (k + 1) (es ++ [strV y.Name]) (by omega) (by omega) hd' (by simp; omega)
    have ha : appV 0 [.arr [m.v], .arr es] 1 16 (.gsl 1 es.length 1 0 es.length) [.str y.Name.s] = some (.gsl 1 (es.length + 1) 1 0 (es.length + 1), [.arr [m.v], .arr (es ++ [.str y.Name.s])]) :=
      appV_1 (Nat.zero_le _) rfl (by simp [roomB]; omega)
    rw [lp836_0]
    simp -implicitDefEqProofs [strV] at hi
    simp -implicitDefEqProofs [l836_0, hlt, buildSl_eq, listOf_sl, ha, w1, hi, hg, strV]
theorem skip836_0 (m : Image) (p : Int) (hp : ¬ p = 14) (es : List V) :
    (orc vp).loop 0 [1, 2, 5, 13] L836_0 [(1, .int .i64 p), (2, .ptr 0 1 0 0), (5, .gsl 1 es.length 1 0 es.length), (13, .int .i64 0)] [.arr [m.v], .arr es] =
     some (.brk 14, [(1, .int .i64 p), (2, .ptr 0 1 0 0), (5, .gsl 1 es.length 1 0 es.length), (13, .int .i64 0), (162, .bool false)], [.arr [m.v], .arr es]) := by
  rw [lp836_0]
  by_cases h : 0 < m.Meters.l.length <;> simp -implicitDefEqProofs [l836_0, hp, h]

def titles (m : Image) (p : Int) : List GS :=
  if p = 1 then m.Headers.l.map (·.Name) else if p = 3 then m.Metas.l.map (·.Name) else if p = 4 then m.States.l.map (·.Name) else if p = 5 then m.Actions.l.map (·.Name) else
  if p = 6 then m.Tables.l.map (·.Name) else if p = 12 then m.Regs.l.map (·.Name) else if p = 13 then m.Counters.l.map (·.Name) else if p = 14 then m.Meters.l.map (·.Name) else []
theorem closed_strs (l : List GS) : closedL (l.map strV) = true := by rw [closedL_map]; simp
@[simp] theorem titles836 (m : Image) (p : Int) (hm : Held m) : callRO vp 836 [m.v, .int .i64 p] = some (.sl 1 ((titles m p).map strV) .perm) := by
  rw [callRO_K fn836]
  by_cases h1 : p = 1
  · subst h1
    have hl := loop836_7 m hm m.Headers.l 0 [] (by omega) (by omega) rfl (by simp)
    have hc := closed_strs (m.Headers.l.map (·.Name))
    simp -implicitDefEqProofs at hl
    simp only [List.map_map] at hc
    have a6 := skip836_6 m 1 (by decide) (m.Headers.l.map fun y => strV y.Name)
    simp -implicitDefEqProofs at a6
    have a5 := skip836_5 m 1 (by decide) (m.Headers.l.map fun y => strV y.Name)
    simp -implicitDefEqProofs at a5
    have a4 := skip836_4 m 1 (by decide) (m.Headers.l.map fun y => strV y.Name)
    simp -implicitDefEqProofs at a4
    have a3 := skip836_3 m 1 (by decide) (m.Headers.l.map fun y => strV y.Name)
    simp -implicitDefEqProofs at a3
    have a2 := skip836_2 m 1 (by decide) (m.Headers.l.map fun y => strV y.Name)
    simp -implicitDefEqProofs at a2
    have a1 := skip836_1 m 1 (by decide) (m.Headers.l.map fun y => strV y.Name)
    simp -implicitDefEqProofs at a1
    have a0 := skip836_0 m 1 (by decide) (m.Headers.l.map fun y => strV y.Name)
    simp -implicitDefEqProofs at a0
    have e1 : (List.map ((fun x => strV x) ∘ fun x => x.Name) m.Headers.l) = m.Headers.l.map fun y => strV y.Name := rfl
    have e2 : closedL (m.Headers.l.map fun y => strV y.Name) = true := hc
    simp -implicitDefEqProofs [f836, b836, hl, a6, a5, a4, a3, a2, a1, a0, e2, titles]
  by_cases h3 : p = 3
  · subst h3
    have hl := loop836_6 m hm m.Metas.l 0 [] (by omega) (by omega) rfl (by simp)
    have hc := closed_strs (m.Metas.l.map (·.Name))
    simp -implicitDefEqProofs at hl
    simp only [List.map_map] at hc
    have a7 := skip836_7 m 3 (by decide) []
    simp -implicitDefEqProofs at a7
    have a5 := skip836_5 m 3 (by decide) (m.Metas.l.map fun y => strV y.Name)
    simp -implicitDefEqProofs at a5
    have a4 := skip836_4 m 3 (by decide) (m.Metas.l.map fun y => strV y.Name)
    simp -implicitDefEqProofs at a4
    have a3 := skip836_3 m 3 (by decide) (m.Metas.l.map fun y => strV y.Name)
    simp -implicitDefEqProofs at a3
    have a2 := skip836_2 m 3 (by decide) (m.Metas.l.map fun y => strV y.Name)
    simp -implicitDefEqProofs at a2
    have a1 := skip836_1 m 3 (by decide) (m.Metas.l.map fun y => strV y.Name)
    simp -implicitDefEqProofs at a1
    have a0 := skip836_0 m 3 (by decide) (m.Metas.l.map fun y => strV y.Name)
    simp -implicitDefEqProofs at a0
    have e1 : (List.map ((fun x => strV x) ∘ fun x => x.Name) m.Metas.l) = m.Metas.l.map fun y => strV y.Name := rfl
    have e2 : closedL (m.Metas.l.map fun y => strV y.Name) = true := hc
    simp -implicitDefEqProofs [f836, b836, hl, a7, a5, a4, a3, a2, a1, a0, e2, titles]
  by_cases h4 : p = 4
  · subst h4
    have hl := loop836_5 m hm m.States.l 0 [] (by omega) (by omega) rfl (by simp)
    have hc := closed_strs (m.States.l.map (·.Name))
    simp -implicitDefEqProofs at hl
    simp only [List.map_map] at hc
    have a7 := skip836_7 m 4 (by decide) []
    simp -implicitDefEqProofs at a7
    have a6 := skip836_6 m 4 (by decide) []
    simp -implicitDefEqProofs at a6
    have a4 := skip836_4 m 4 (by decide) (m.States.l.map fun y => strV y.Name)
    simp -implicitDefEqProofs at a4
    have a3 := skip836_3 m 4 (by decide) (m.States.l.map fun y => strV y.Name)
    simp -implicitDefEqProofs at a3
    have a2 := skip836_2 m 4 (by decide) (m.States.l.map fun y => strV y.Name)
    simp -implicitDefEqProofs at a2
    have a1 := skip836_1 m 4 (by decide) (m.States.l.map fun y => strV y.Name)
    simp -implicitDefEqProofs at a1
    have a0 := skip836_0 m 4 (by decide) (m.States.l.map fun y => strV y.Name)
    simp -implicitDefEqProofs at a0
    have e1 : (List.map ((fun x => strV x) ∘ fun x => x.Name) m.States.l) = m.States.l.map fun y => strV y.Name := rfl
    have e2 : closedL (m.States.l.map fun y => strV y.Name) = true := hc
    simp -implicitDefEqProofs [f836, b836, hl, a7, a6, a4, a3, a2, a1, a0, e2, titles]
  by_cases h5 : p = 5
  · subst h5
    have hl := loop836_4 m hm m.Actions.l 0 [] (by omega) (by omega) rfl (by simp)
    have hc := closed_strs (m.Actions.l.map (·.Name))
    simp -implicitDefEqProofs at hl
    simp only [List.map_map] at hc
    have a7 := skip836_7 m 5 (by decide) []
    simp -implicitDefEqProofs at a7
    have a6 := skip836_6 m 5 (by decide) []
    simp -implicitDefEqProofs at a6
    have a5 := skip836_5 m 5 (by decide) []
    simp -implicitDefEqProofs at a5
    have a3 := skip836_3 m 5 (by decide) (m.Actions.l.map fun y => strV y.Name)
    simp -implicitDefEqProofs at a3
    have a2 := skip836_2 m 5 (by decide) (m.Actions.l.map fun y => strV y.Name)
    simp -implicitDefEqProofs at a2
    have a1 := skip836_1 m 5 (by decide) (m.Actions.l.map fun y => strV y.Name)
    simp -implicitDefEqProofs at a1
    have a0 := skip836_0 m 5 (by decide) (m.Actions.l.map fun y => strV y.Name)
    simp -implicitDefEqProofs at a0
    have e1 : (List.map ((fun x => strV x) ∘ fun x => x.Name) m.Actions.l) = m.Actions.l.map fun y => strV y.Name := rfl
    have e2 : closedL (m.Actions.l.map fun y => strV y.Name) = true := hc
    simp -implicitDefEqProofs [f836, b836, hl, a7, a6, a5, a3, a2, a1, a0, e2, titles]
  by_cases h6 : p = 6
  · subst h6
    have hl := loop836_3 m hm m.Tables.l 0 [] (by omega) (by omega) rfl (by simp)
    have hc := closed_strs (m.Tables.l.map (·.Name))
    simp -implicitDefEqProofs at hl
    simp only [List.map_map] at hc
    have a7 := skip836_7 m 6 (by decide) []
    simp -implicitDefEqProofs at a7
    have a6 := skip836_6 m 6 (by decide) []
    simp -implicitDefEqProofs at a6
    have a5 := skip836_5 m 6 (by decide) []
    simp -implicitDefEqProofs at a5
    have a4 := skip836_4 m 6 (by decide) []
    simp -implicitDefEqProofs at a4
    have a2 := skip836_2 m 6 (by decide) (m.Tables.l.map fun y => strV y.Name)
    simp -implicitDefEqProofs at a2
    have a1 := skip836_1 m 6 (by decide) (m.Tables.l.map fun y => strV y.Name)
    simp -implicitDefEqProofs at a1
    have a0 := skip836_0 m 6 (by decide) (m.Tables.l.map fun y => strV y.Name)
    simp -implicitDefEqProofs at a0
    have e1 : (List.map ((fun x => strV x) ∘ fun x => x.Name) m.Tables.l) = m.Tables.l.map fun y => strV y.Name := rfl
    have e2 : closedL (m.Tables.l.map fun y => strV y.Name) = true := hc
    simp -implicitDefEqProofs [f836, b836, hl, a7, a6, a5, a4, a2, a1, a0, e2, titles]
  by_cases h12 : p = 12
  · subst h12
    have hl := loop836_2 m hm m.Regs.l 0 [] (by omega) (by omega) rfl (by simp)
    have hc := closed_strs (m.Regs.l.map (·.Name))
    simp -implicitDefEqProofs at hl
    simp only [List.map_map] at hc
    have a7 := skip836_7 m 12 (by decide) []
    simp -implicitDefEqProofs at a7
    have a6 := skip836_6 m 12 (by decide) []
    simp -implicitDefEqProofs at a6
    have a5 := skip836_5 m 12 (by decide) []
    simp -implicitDefEqProofs at a5
    have a4 := skip836_4 m 12 (by decide) []
    simp -implicitDefEqProofs at a4
    have a3 := skip836_3 m 12 (by decide) []
    simp -implicitDefEqProofs at a3
    have a1 := skip836_1 m 12 (by decide) (m.Regs.l.map fun y => strV y.Name)
    simp -implicitDefEqProofs at a1
    have a0 := skip836_0 m 12 (by decide) (m.Regs.l.map fun y => strV y.Name)
    simp -implicitDefEqProofs at a0
    have e1 : (List.map ((fun x => strV x) ∘ fun x => x.Name) m.Regs.l) = m.Regs.l.map fun y => strV y.Name := rfl
    have e2 : closedL (m.Regs.l.map fun y => strV y.Name) = true := hc
    simp -implicitDefEqProofs [f836, b836, hl, a7, a6, a5, a4, a3, a1, a0, e2, titles]
  by_cases h13 : p = 13
  · subst h13
    have hl := loop836_1 m hm m.Counters.l 0 [] (by omega) (by omega) rfl (by simp)
    have hc := closed_strs (m.Counters.l.map (·.Name))
    simp -implicitDefEqProofs at hl
    simp only [List.map_map] at hc
    have a7 := skip836_7 m 13 (by decide) []
    simp -implicitDefEqProofs at a7
    have a6 := skip836_6 m 13 (by decide) []
    simp -implicitDefEqProofs at a6
    have a5 := skip836_5 m 13 (by decide) []
    simp -implicitDefEqProofs at a5
    have a4 := skip836_4 m 13 (by decide) []
    simp -implicitDefEqProofs at a4
    have a3 := skip836_3 m 13 (by decide) []
    simp -implicitDefEqProofs at a3
    have a2 := skip836_2 m 13 (by decide) []
    simp -implicitDefEqProofs at a2
    have a0 := skip836_0 m 13 (by decide) (m.Counters.l.map fun y => strV y.Name)
    simp -implicitDefEqProofs at a0
    have e1 : (List.map ((fun x => strV x) ∘ fun x => x.Name) m.Counters.l) = m.Counters.l.map fun y => strV y.Name := rfl
    have e2 : closedL (m.Counters.l.map fun y => strV y.Name) = true := hc
    simp -implicitDefEqProofs [f836, b836, hl, a7, a6, a5, a4, a3, a2, a0, e2, titles]
  by_cases h14 : p = 14
  · subst h14
    have hl := loop836_0 m hm m.Meters.l 0 [] (by omega) (by omega) rfl (by simp)
    have hc := closed_strs (m.Meters.l.map (·.Name))
    simp -implicitDefEqProofs at hl
    simp only [List.map_map] at hc
    have a7 := skip836_7 m 14 (by decide) []
    simp -implicitDefEqProofs at a7
    have a6 := skip836_6 m 14 (by decide) []
    simp -implicitDefEqProofs at a6
    have a5 := skip836_5 m 14 (by decide) []
    simp -implicitDefEqProofs at a5
    have a4 := skip836_4 m 14 (by decide) []
    simp -implicitDefEqProofs at a4
    have a3 := skip836_3 m 14 (by decide) []
    simp -implicitDefEqProofs at a3
    have a2 := skip836_2 m 14 (by decide) []
    simp -implicitDefEqProofs at a2
    have a1 := skip836_1 m 14 (by decide) []
    simp -implicitDefEqProofs at a1
    have e1 : (List.map ((fun x => strV x) ∘ fun x => x.Name) m.Meters.l) = m.Meters.l.map fun y => strV y.Name := rfl
    have e2 : closedL (m.Meters.l.map fun y => strV y.Name) = true := hc
    simp -implicitDefEqProofs [f836, b836, hl, a7, a6, a5, a4, a3, a2, a1, e2, titles]
  have a7 := skip836_7 m p h1 []
  simp -implicitDefEqProofs at a7
  have a6 := skip836_6 m p h3 []
  simp -implicitDefEqProofs at a6
  have a5 := skip836_5 m p h4 []
  simp -implicitDefEqProofs at a5
  have a4 := skip836_4 m p h5 []
  simp -implicitDefEqProofs at a4
  have a3 := skip836_3 m p h6 []
  simp -implicitDefEqProofs at a3
  have a2 := skip836_2 m p h12 []
  simp -implicitDefEqProofs at a2
  have a1 := skip836_1 m p h13 []
  simp -implicitDefEqProofs at a1
  have a0 := skip836_0 m p h14 []
  simp -implicitDefEqProofs at a0
  simp -implicitDefEqProofs [f836, b836, a7, a6, a5, a4, a3, a2, a1, a0, titles, h1, h3, h4, h5, h6, h12, h13, h14]

theorem loop657 (l : List GS) (t : Tag) (hb : l.length ≤ 5900000000000) : ∀ (r : List GS) (k : Int), 0 ≤ k → k ≤ l.length → l.drop k.toNat = r →
    (orc vp).loop 0 [0, 3] L657_0 [(0, .sl 1 (l.map strV) t), (3, .int .i64 k)] [] =
      some (if (r.all fun s => decide (s.s.length ≤ 100)) = true then (.brk 0, [(0, .sl 1 (l.map strV) t), (3, .int .i64 l.length), (7, .bool false)], []) else (.ret, [(2, .bool false)], [])) := by
  intro r
  induction r with
  | nil =>
    intro k hk hkl hd
    have hle := drop_nil hk hd
    have hlt : ¬ k < l.length := by omega
    have he : k = l.length := by omega
    rw [lp657_0]
    simp -implicitDefEqProofs [l657_0, hlt, he]
  | cons y r ih =>
    intro k hk hkl hd
    obtain ⟨hg, hlt, hd'⟩ := drop_cons hk hd
    have w1 : IntKind.i64.wrap (k + 1) = k + 1 := wrap64 (by omega) (by omega)
    have hi := ih (k + 1) (by omega) (by omega) hd'
    rw [lp657_0]
    by_cases hy : y.s.length ≤ 100
    · have hy' : ¬ (100 : Int) < y.s.length := by omega
      simp -implicitDefEqProofs [l657_0, hlt, w1, hi, hg, hy, hy', strV]
    · have hy' : (100 : Int) < y.s.length := by omega
      simp -implicitDefEqProofs [l657_0, hlt, hg, hy, hy', strV]
def briefB (l : List GS) : Bool := (l.all fun s => decide (s.s.length ≤ 100)) && decide (l.length ≤ 70)
@[simp] theorem brief657 (l : List GS) (t : Tag) (hb : l.length ≤ 5900000000000) : callRO vp 657 [.sl 1 (l.map strV) t] = some (.bool (briefB l)) := by
  have h := loop657 l t hb l 0 (by omega) (by omega) rfl
  rw [callRO_K fn657]
  unfold briefB
  by_cases ha : (l.all fun s => decide (s.s.length ≤ 100)) = true
  · rw [if_pos ha] at h
    simp -implicitDefEqProofs [f657, b657, h, ha]
    omega
  · rw [if_neg ha] at h
    simp only [Bool.not_eq_true] at ha
    simp -implicitDefEqProofs [f657, b657, h, ha]
theorem titles_len {m : Image} (hm : Held m) (p : Int) : (titles m p).length ≤ 5900000000000 := by
  unfold titles
  obtain ⟨h1, h2, h3, h4, h5, h6, h7, h8⟩ := hm
  repeat' split
  all_goals simp
  all_goals assumption
end Go.VE.Un

