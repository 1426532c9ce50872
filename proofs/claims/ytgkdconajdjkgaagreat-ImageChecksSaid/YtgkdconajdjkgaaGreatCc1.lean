/- Joined texts: CtE, CtF. No condition: what each theorem needs stands in it. -/
import Derived.Test.YtgkdconajdjkgaaGreatCc0
namespace Go.VE.Un
open Go.VE
set_option linter.unusedVariables false
set_option linter.unusedSimpArgs false
def strV (s : GS) : VE.V := .str s.s
@[simp] theorem strV_below (k : Nat) (s : GS) : belowB k (strV s) = true := nr rfl
@[simp] theorem strV_closed (s : GS) : closedB (strV s) = true := nr rfl
structure Held (m : Image) : Prop where
 hHeaders : m.Headers.l.length ≤ 5900000000000
 hMetas : m.Metas.l.length ≤ 5900000000000
 hStates : m.States.l.length ≤ 5900000000000
 hActions : m.Actions.l.length ≤ 5900000000000
 hTables : m.Tables.l.length ≤ 5900000000000
 hRegs : m.Regs.l.length ≤ 5900000000000
 hCounters : m.Counters.l.length ≤ 5900000000000
 hMeters : m.Meters.l.length ≤ 5900000000000
theorem loop836_7 (m : Image) (hm : Held m) : ∀ (r : List Header) (k : Int) (es : List V), 0 ≤ k → k ≤ m.Headers.l.length → m.Headers.l.drop k.toNat = r → es.length = k →
    (orc vp).loop 0 [1, 2, 5, 6] L836_7 [(1, .int .i64 1), (2, .ptr 0 1 0 0), (5, .gsl 1 es.length 1 0 es.length), (6, .int .i64 k)] [.arr [m.v], .arr es] =
     some (.brk 0, [(1, .int .i64 1), (2, .ptr 0 1 0 0), (5, .gsl 1 (es ++ r.map fun y => strV y.Name).length 1 0 (es ++ r.map fun y => strV y.Name).length), (6, .int .i64 m.Headers.l.length), (22, .bool false)], [.arr [m.v], .arr (es ++ r.map fun y => strV y.Name)]) := by
  intro r
  induction r with
  | nil =>
    intro k es hk hkl hd hr
    have hle := drop_nil hk hd
    have hlt : ¬ k < m.Headers.l.length := by omega
    have he : k = m.Headers.l.length := by omega
    rw [lp836_7]
    simp -implicitDefEqProofs [hlt, he]
  | cons y r ih =>
    intro k es hk hkl hd hr
    obtain ⟨hg, hlt, hd'⟩ := drop_cons hk hd
    have hb := hm.hHeaders
    have w1 : IntKind.i64.wrap (k + 1) = k + 1 := wrap64 (by omega) (by omega)
    have hi := ih (k + 1) (es ++ [strV y.Name]) (by omega) (by omega) hd' (by simp; omega)
    have ha : appV 0 [.arr [m.v], .arr es] 1 16 (.gsl 1 es.length 1 0 es.length) [.str y.Name.s] = some (.gsl 1 (es.length + 1) 1 0 (es.length + 1), [.arr [m.v], .arr (es ++ [.str y.Name.s])]) :=
      appV_1 (Nat.zero_le _) rfl (by simp [roomB]; omega)
    rw [lp836_7]
    simp -implicitDefEqProofs [strV] at hi
    simp -implicitDefEqProofs [hlt, buildSl_eq, listOf_sl, ha, w1, hi, hg, strV]
theorem skip836_7 (m : Image) (p : Int) (hp : ¬ p = 1) (es : List V) :
    (orc vp).loop 0 [1, 2, 5, 6] L836_7 [(1, .int .i64 p), (2, .ptr 0 1 0 0), (5, .gsl 1 es.length 1 0 es.length), (6, .int .i64 0)] [.arr [m.v], .arr es] =
     some (.brk 0, [(1, .int .i64 p), (2, .ptr 0 1 0 0), (5, .gsl 1 es.length 1 0 es.length), (6, .int .i64 0), (22, .bool false)], [.arr [m.v], .arr es]) := by
  rw [lp836_7]
  by_cases h : 0 < m.Headers.l.length <;> simp -implicitDefEqProofs [hp, h]
theorem loop836_6 (m : Image) (hm : Held m) : ∀ (r : List Field) (k : Int) (es : List V), 0 ≤ k → k ≤ m.Metas.l.length → m.Metas.l.drop k.toNat = r → es.length = k →
    (orc vp).loop 0 [1, 2, 5, 7] L836_6 [(1, .int .i64 3), (2, .ptr 0 1 0 0), (5, .gsl 1 es.length 1 0 es.length), (7, .int .i64 k)] [.arr [m.v], .arr es] =
     some (.brk 2, [(1, .int .i64 3), (2, .ptr 0 1 0 0), (5, .gsl 1 (es ++ r.map fun y => strV y.Name).length 1 0 (es ++ r.map fun y => strV y.Name).length), (7, .int .i64 m.Metas.l.length), (42, .bool false)], [.arr [m.v], .arr (es ++ r.map fun y => strV y.Name)]) := by
  intro r
  induction r with
  | nil =>
    intro k es hk hkl hd hr
    have hle := drop_nil hk hd
    have hlt : ¬ k < m.Metas.l.length := by omega
    have he : k = m.Metas.l.length := by omega
    rw [lp836_6]
    simp -implicitDefEqProofs [hlt, he]
  | cons y r ih =>
    intro k es hk hkl hd hr
    obtain ⟨hg, hlt, hd'⟩ := drop_cons hk hd
    have hb := hm.hMetas
    have w1 : IntKind.i64.wrap (k + 1) = k + 1 := wrap64 (by omega) (by omega)
    have hi := ih (k + 1) (es ++ [strV y.Name]) (by omega) (by omega) hd' (by simp; omega)
    have ha : appV 0 [.arr [m.v], .arr es] 1 16 (.gsl 1 es.length 1 0 es.length) [.str y.Name.s] = some (.gsl 1 (es.length + 1) 1 0 (es.length + 1), [.arr [m.v], .arr (es ++ [.str y.Name.s])]) :=
      appV_1 (Nat.zero_le _) rfl (by simp [roomB]; omega)
    rw [lp836_6]
    simp -implicitDefEqProofs [strV] at hi
    simp -implicitDefEqProofs [hlt, buildSl_eq, listOf_sl, ha, w1, hi, hg, strV]
theorem skip836_6 (m : Image) (p : Int) (hp : ¬ p = 3) (es : List V) :
    (orc vp).loop 0 [1, 2, 5, 7] L836_6 [(1, .int .i64 p), (2, .ptr 0 1 0 0), (5, .gsl 1 es.length 1 0 es.length), (7, .int .i64 0)] [.arr [m.v], .arr es] =
     some (.brk 2, [(1, .int .i64 p), (2, .ptr 0 1 0 0), (5, .gsl 1 es.length 1 0 es.length), (7, .int .i64 0), (42, .bool false)], [.arr [m.v], .arr es]) := by
  rw [lp836_6]
  by_cases h : 0 < m.Metas.l.length <;> simp -implicitDefEqProofs [hp, h]
theorem loop836_5 (m : Image) (hm : Held m) : ∀ (r : List State) (k : Int) (es : List V), 0 ≤ k → k ≤ m.States.l.length → m.States.l.drop k.toNat = r → es.length = k →
    (orc vp).loop 0 [1, 2, 5, 8] L836_5 [(1, .int .i64 4), (2, .ptr 0 1 0 0), (5, .gsl 1 es.length 1 0 es.length), (8, .int .i64 k)] [.arr [m.v], .arr es] =
     some (.brk 4, [(1, .int .i64 4), (2, .ptr 0 1 0 0), (5, .gsl 1 (es ++ r.map fun y => strV y.Name).length 1 0 (es ++ r.map fun y => strV y.Name).length), (8, .int .i64 m.States.l.length), (62, .bool false)], [.arr [m.v], .arr (es ++ r.map fun y => strV y.Name)]) := by
  intro r
  induction r with
  | nil =>
    intro k es hk hkl hd hr
    have hle := drop_nil hk hd
    have hlt : ¬ k < m.States.l.length := by omega
    have he : k = m.States.l.length := by omega
    rw [lp836_5]
    simp -implicitDefEqProofs [hlt, he]
  | cons y r ih =>
    intro k es hk hkl hd hr
    obtain ⟨hg, hlt, hd'⟩ := drop_cons hk hd
    have hb := hm.hStates
    have w1 : IntKind.i64.wrap (k + 1) = k + 1 := wrap64 (by omega) (by omega)
    have hi := ih (k + 1) (es ++ [strV y.Name]) (by omega) (by omega) hd' (by simp; omega)
    have ha : appV 0 [.arr [m.v], .arr es] 1 16 (.gsl 1 es.length 1 0 es.length) [.str y.Name.s] = some (.gsl 1 (es.length + 1) 1 0 (es.length + 1), [.arr [m.v], .arr (es ++ [.str y.Name.s])]) :=
      appV_1 (Nat.zero_le _) rfl (by simp [roomB]; omega)
    rw [lp836_5]
    simp -implicitDefEqProofs [strV] at hi
    simp -implicitDefEqProofs [hlt, buildSl_eq, listOf_sl, ha, w1, hi, hg, strV]
theorem skip836_5 (m : Image) (p : Int) (hp : ¬ p = 4) (es : List V) :
    (orc vp).loop 0 [1, 2, 5, 8] L836_5 [(1, .int .i64 p), (2, .ptr 0 1 0 0), (5, .gsl 1 es.length 1 0 es.length), (8, .int .i64 0)] [.arr [m.v], .arr es] =
     some (.brk 4, [(1, .int .i64 p), (2, .ptr 0 1 0 0), (5, .gsl 1 es.length 1 0 es.length), (8, .int .i64 0), (62, .bool false)], [.arr [m.v], .arr es]) := by
  rw [lp836_5]
  by_cases h : 0 < m.States.l.length <;> simp -implicitDefEqProofs [hp, h]
theorem loop836_4 (m : Image) (hm : Held m) : ∀ (r : List Action) (k : Int) (es : List V), 0 ≤ k → k ≤ m.Actions.l.length → m.Actions.l.drop k.toNat = r → es.length = k →
    (orc vp).loop 0 [1, 2, 5, 9] L836_4 [(1, .int .i64 5), (2, .ptr 0 1 0 0), (5, .gsl 1 es.length 1 0 es.length), (9, .int .i64 k)] [.arr [m.v], .arr es] =
     some (.brk 6, [(1, .int .i64 5), (2, .ptr 0 1 0 0), (5, .gsl 1 (es ++ r.map fun y => strV y.Name).length 1 0 (es ++ r.map fun y => strV y.Name).length), (9, .int .i64 m.Actions.l.length), (82, .bool false)], [.arr [m.v], .arr (es ++ r.map fun y => strV y.Name)]) := by
  intro r
  induction r with
  | nil =>
    intro k es hk hkl hd hr
    have hle := drop_nil hk hd
    have hlt : ¬ k < m.Actions.l.length := by omega
    have he : k = m.Actions.l.length := by omega
    rw [lp836_4]
    simp -implicitDefEqProofs [hlt, he]
  | cons y r ih =>
    intro k es hk hkl hd hr
    obtain ⟨hg, hlt, hd'⟩ := drop_cons hk hd
    have hb := hm.hActions
    have w1 : IntKind.i64.wrap (k + 1) = k + 1 := wrap64 (by omega) (by omega)
    have hi := ih (k + 1) (es ++ [strV y.Name]) (by omega) (by omega) hd' (by simp; omega)
    have ha : appV 0 [.arr [m.v], .arr es] 1 16 (.gsl 1 es.length 1 0 es.length) [.str y.Name.s] = some (.gsl 1 (es.length + 1) 1 0 (es.length + 1), [.arr [m.v], .arr (es ++ [.str y.Name.s])]) :=
      appV_1 (Nat.zero_le _) rfl (by simp [roomB]; omega)
    rw [lp836_4]
    simp -implicitDefEqProofs [strV] at hi
    simp -implicitDefEqProofs [hlt, buildSl_eq, listOf_sl, ha, w1, hi, hg, strV]
theorem skip836_4 (m : Image) (p : Int) (hp : ¬ p = 5) (es : List V) :
    (orc vp).loop 0 [1, 2, 5, 9] L836_4 [(1, .int .i64 p), (2, .ptr 0 1 0 0), (5, .gsl 1 es.length 1 0 es.length), (9, .int .i64 0)] [.arr [m.v], .arr es] =
     some (.brk 6, [(1, .int .i64 p), (2, .ptr 0 1 0 0), (5, .gsl 1 es.length 1 0 es.length), (9, .int .i64 0), (82, .bool false)], [.arr [m.v], .arr es]) := by
  rw [lp836_4]
  by_cases h : 0 < m.Actions.l.length <;> simp -implicitDefEqProofs [hp, h]
theorem loop836_3 (m : Image) (hm : Held m) : ∀ (r : List Table) (k : Int) (es : List V), 0 ≤ k → k ≤ m.Tables.l.length → m.Tables.l.drop k.toNat = r → es.length = k →
    (orc vp).loop 0 [1, 2, 5, 10] L836_3 [(1, .int .i64 6), (2, .ptr 0 1 0 0), (5, .gsl 1 es.length 1 0 es.length), (10, .int .i64 k)] [.arr [m.v], .arr es] =
     some (.brk 8, [(1, .int .i64 6), (2, .ptr 0 1 0 0), (5, .gsl 1 (es ++ r.map fun y => strV y.Name).length 1 0 (es ++ r.map fun y => strV y.Name).length), (10, .int .i64 m.Tables.l.length), (102, .bool false)], [.arr [m.v], .arr (es ++ r.map fun y => strV y.Name)]) := by
  intro r
  induction r with
  | nil =>
    intro k es hk hkl hd hr
    have hle := drop_nil hk hd
    have hlt : ¬ k < m.Tables.l.length := by omega
    have he : k = m.Tables.l.length := by omega
    rw [lp836_3]
    simp -implicitDefEqProofs [hlt, he]
  | cons y r ih =>
    intro k es hk hkl hd hr
    obtain ⟨hg, hlt, hd'⟩ := drop_cons hk hd
    have hb := hm.hTables
    have w1 : IntKind.i64.wrap (k + 1) = k + 1 := wrap64 (by omega) (by omega)
    have hi := ih (k + 1) (es ++ [strV y.Name]) (by omega) (by omega) hd' (by simp; omega)
    have ha : appV 0 [.arr [m.v], .arr es] 1 16 (.gsl 1 es.length 1 0 es.length) [.str y.Name.s] = some (.gsl 1 (es.length + 1) 1 0 (es.length + 1), [.arr [m.v], .arr (es ++ [.str y.Name.s])]) :=
      appV_1 (Nat.zero_le _) rfl (by simp [roomB]; omega)
    rw [lp836_3]
    simp -implicitDefEqProofs [strV] at hi
    simp -implicitDefEqProofs [hlt, buildSl_eq, listOf_sl, ha, w1, hi, hg, strV]
theorem skip836_3 (m : Image) (p : Int) (hp : ¬ p = 6) (es : List V) :
    (orc vp).loop 0 [1, 2, 5, 10] L836_3 [(1, .int .i64 p), (2, .ptr 0 1 0 0), (5, .gsl 1 es.length 1 0 es.length), (10, .int .i64 0)] [.arr [m.v], .arr es] =
     some (.brk 8, [(1, .int .i64 p), (2, .ptr 0 1 0 0), (5, .gsl 1 es.length 1 0 es.length), (10, .int .i64 0), (102, .bool false)], [.arr [m.v], .arr es]) := by
  rw [lp836_3]
  by_cases h : 0 < m.Tables.l.length <;> simp -implicitDefEqProofs [hp, h]
theorem loop836_2 (m : Image) (hm : Held m) : ∀ (r : List Reg) (k : Int) (es : List V), 0 ≤ k → k ≤ m.Regs.l.length → m.Regs.l.drop k.toNat = r → es.length = k →
    (orc vp).loop 0 [1, 2, 5, 11] L836_2 [(1, .int .i64 12), (2, .ptr 0 1 0 0), (5, .gsl 1 es.length 1 0 es.length), (11, .int .i64 k)] [.arr [m.v], .arr es] =
     some (.brk 10, [(1, .int .i64 12), (2, .ptr 0 1 0 0), (5, .gsl 1 (es ++ r.map fun y => strV y.Name).length 1 0 (es ++ r.map fun y => strV y.Name).length), (11, .int .i64 m.Regs.l.length), (122, .bool false)], [.arr [m.v], .arr (es ++ r.map fun y => strV y.Name)]) := by
  intro r
  induction r with
  | nil =>
    intro k es hk hkl hd hr
    have hle := drop_nil hk hd
    have hlt : ¬ k < m.Regs.l.length := by omega
    have he : k = m.Regs.l.length := by omega
    rw [lp836_2]
    simp -implicitDefEqProofs [hlt, he]
  | cons y r ih =>
    intro k es hk hkl hd hr
    obtain ⟨hg, hlt, hd'⟩ := drop_cons hk hd
    have hb := hm.hRegs
    have w1 : IntKind.i64.wrap (k + 1) = k + 1 := wrap64 (by omega) (by omega)
    have hi := ih (k + 1) (es ++ [strV y.Name]) (by omega) (by omega) hd' (by simp; omega)
    have ha : appV 0 [.arr [m.v], .arr es] 1 16 (.gsl 1 es.length 1 0 es.length) [.str y.Name.s] = some (.gsl 1 (es.length + 1) 1 0 (es.length + 1), [.arr [m.v], .arr (es ++ [.str y.Name.s])]) :=
      appV_1 (Nat.zero_le _) rfl (by simp [roomB]; omega)
    rw [lp836_2]
    simp -implicitDefEqProofs [strV] at hi
    simp -implicitDefEqProofs [hlt, buildSl_eq, listOf_sl, ha, w1, hi, hg, strV]
theorem skip836_2 (m : Image) (p : Int) (hp : ¬ p = 12) (es : List V) :
    (orc vp).loop 0 [1, 2, 5, 11] L836_2 [(1, .int .i64 p), (2, .ptr 0 1 0 0), (5, .gsl 1 es.length 1 0 es.length), (11, .int .i64 0)] [.arr [m.v], .arr es] =
     some (.brk 10, [(1, .int .i64 p), (2, .ptr 0 1 0 0), (5, .gsl 1 es.length 1 0 es.length), (11, .int .i64 0), (122, .bool false)], [.arr [m.v], .arr es]) := by
  rw [lp836_2]
  by_cases h : 0 < m.Regs.l.length <;> simp -implicitDefEqProofs [hp, h]
theorem loop836_1 (m : Image) (hm : Held m) : ∀ (r : List Counter) (k : Int) (es : List V), 0 ≤ k → k ≤ m.Counters.l.length → m.Counters.l.drop k.toNat = r → es.length = k →
    (orc vp).loop 0 [1, 2, 5, 12] L836_1 [(1, .int .i64 13), (2, .ptr 0 1 0 0), (5, .gsl 1 es.length 1 0 es.length), (12, .int .i64 k)] [.arr [m.v], .arr es] =
     some (.brk 12, [(1, .int .i64 13), (2, .ptr 0 1 0 0), (5, .gsl 1 (es ++ r.map fun y => strV y.Name).length 1 0 (es ++ r.map fun y => strV y.Name).length), (12, .int .i64 m.Counters.l.length), (142, .bool false)], [.arr [m.v], .arr (es ++ r.map fun y => strV y.Name)]) := by
  intro r
  induction r with
  | nil =>
    intro k es hk hkl hd hr
    have hle := drop_nil hk hd
    have hlt : ¬ k < m.Counters.l.length := by omega
    have he : k = m.Counters.l.length := by omega
    rw [lp836_1]
    simp -implicitDefEqProofs [hlt, he]
  | cons y r ih =>
    intro k es hk hkl hd hr
    obtain ⟨hg, hlt, hd'⟩ := drop_cons hk hd
    have hb := hm.hCounters
    have w1 : IntKind.i64.wrap (k + 1) = k + 1 := wrap64 (by omega) (by omega)
    have hi := ih (k + 1) (es ++ [strV y.Name]) (by omega) (by omega) hd' (by simp; omega)
    have ha : appV 0 [.arr [m.v], .arr es] 1 16 (.gsl 1 es.length 1 0 es.length) [.str y.Name.s] = some (.gsl 1 (es.length + 1) 1 0 (es.length + 1), [.arr [m.v], .arr (es ++ [.str y.Name.s])]) :=
      appV_1 (Nat.zero_le _) rfl (by simp [roomB]; omega)
    rw [lp836_1]
    simp -implicitDefEqProofs [strV] at hi
    simp -implicitDefEqProofs [hlt, buildSl_eq, listOf_sl, ha, w1, hi, hg, strV]
theorem skip836_1 (m : Image) (p : Int) (hp : ¬ p = 13) (es : List V) :
    (orc vp).loop 0 [1, 2, 5, 12] L836_1 [(1, .int .i64 p), (2, .ptr 0 1 0 0), (5, .gsl 1 es.length 1 0 es.length), (12, .int .i64 0)] [.arr [m.v], .arr es] =
     some (.brk 12, [(1, .int .i64 p), (2, .ptr 0 1 0 0), (5, .gsl 1 es.length 1 0 es.length), (12, .int .i64 0), (142, .bool false)], [.arr [m.v], .arr es]) := by
  rw [lp836_1]
  by_cases h : 0 < m.Counters.l.length <;> simp -implicitDefEqProofs [hp, h]
theorem loop836_0 (m : Image) (hm : Held m) : ∀ (r : List Meter) (k : Int) (es : List V), 0 ≤ k → k ≤ m.Meters.l.length → m.Meters.l.drop k.toNat = r → es.length = k →
    (orc vp).loop 0 [1, 2, 5, 13] L836_0 [(1, .int .i64 14), (2, .ptr 0 1 0 0), (5, .gsl 1 es.length 1 0 es.length), (13, .int .i64 k)] [.arr [m.v], .arr es] =
     some (.brk 14, [(1, .int .i64 14), (2, .ptr 0 1 0 0), (5, .gsl 1 (es ++ r.map fun y => strV y.Name).length 1 0 (es ++ r.map fun y => strV y.Name).length), (13, .int .i64 m.Meters.l.length), (162, .bool false)], [.arr [m.v], .arr (es ++ r.map fun y => strV y.Name)]) := by
  intro r
  induction r with
  | nil =>
    intro k es hk hkl hd hr
    have hle := drop_nil hk hd
    have hlt : ¬ k < m.Meters.l.length := by omega
    have he : k = m.Meters.l.length := by omega
    rw [lp836_0]
    simp -implicitDefEqProofs [hlt, he]
  | cons y r ih =>
    intro k es hk hkl hd hr
    obtain ⟨hg, hlt, hd'⟩ := drop_cons hk hd
    have hb := hm.hMeters
    have w1 : IntKind.i64.wrap (k + 1) = k + 1 := wrap64 (by omega) (by omega)
    have hi := ih (k + 1) (es ++ [strV y.Name]) (by omega) (by omega) hd' (by simp; omega)
    have ha : appV 0 [.arr [m.v], .arr es] 1 16 (.gsl 1 es.length 1 0 es.length) [.str y.Name.s] = some (.gsl 1 (es.length + 1) 1 0 (es.length + 1), [.arr [m.v], .arr (es ++ [.str y.Name.s])]) :=
      appV_1 (Nat.zero_le _) rfl (by simp [roomB]; omega)
    rw [lp836_0]
    simp -implicitDefEqProofs [strV] at hi
    simp -implicitDefEqProofs [hlt, buildSl_eq, listOf_sl, ha, w1, hi, hg, strV]
theorem skip836_0 (m : Image) (p : Int) (hp : ¬ p = 14) (es : List V) :
    (orc vp).loop 0 [1, 2, 5, 13] L836_0 [(1, .int .i64 p), (2, .ptr 0 1 0 0), (5, .gsl 1 es.length 1 0 es.length), (13, .int .i64 0)] [.arr [m.v], .arr es] =
     some (.brk 14, [(1, .int .i64 p), (2, .ptr 0 1 0 0), (5, .gsl 1 es.length 1 0 es.length), (13, .int .i64 0), (162, .bool false)], [.arr [m.v], .arr es]) := by
  rw [lp836_0]
  by_cases h : 0 < m.Meters.l.length <;> simp -implicitDefEqProofs [hp, h]
def titles (m : Image) (p : Int) : List GS :=
 if p = 1 then m.Headers.l.map (·.Name) else if p = 3 then m.Metas.l.map (·.Name) else if p = 4 then m.States.l.map (·.Name) else if p = 5 then m.Actions.l.map (·.Name) else
 if p = 6 then m.Tables.l.map (·.Name) else if p = 12 then m.Regs.l.map (·.Name) else if p = 13 then m.Counters.l.map (·.Name) else if p = 14 then m.Meters.l.map (·.Name) else []
theorem closed_strs (l : List GS) : closedL (l.map strV) = true := by rw [closedL_map]; simp
@[simp] theorem titles836 (m : Image) (p : Int) (hm : Held m) : callRO vp 836 [m.v,.int .i64 p] = some (.sl 1 ((titles m p).map strV) .perm) := by
 rw [callRO_K fn836]
 by_cases h1 : p = 1
 ·subst h1
  have hl := loop836_7 m hm m.Headers.l 0 [] (by omega) (by omega) rfl (by simp)
  have hc := closed_strs (m.Headers.l.map (·.Name))
  simp -implicitDefEqProofs at hl
  simp only [List.map_map] at hc
  have a6 := skip836_6 m 1 (by decide) (m.Headers.l.map fun y => strV y.Name)
  simp -implicitDefEqProofs at a6
  have a5 := skip836_5 m 1 (by decide) (m.Headers.l.map fun y => strV y.Name)
  simp -implicitDefEqProofs at a5
  have a4 := skip836_4 m 1 (by decide) (m.Headers.l.map fun y => strV y.Name)
  simp -implicitDefEqProofs at a4
  have a3 := skip836_3 m 1 (by decide) (m.Headers.l.map fun y => strV y.Name)
  simp -implicitDefEqProofs at a3
  have a2 := skip836_2 m 1 (by decide) (m.Headers.l.map fun y => strV y.Name)
  simp -implicitDefEqProofs at a2
  have a1 := skip836_1 m 1 (by decide) (m.Headers.l.map fun y => strV y.Name)
  simp -implicitDefEqProofs at a1
  have a0 := skip836_0 m 1 (by decide) (m.Headers.l.map fun y => strV y.Name)
  simp -implicitDefEqProofs at a0
  have e1 : (List.map ((fun x => strV x) ∘ fun x => x.Name) m.Headers.l) = m.Headers.l.map fun y => strV y.Name := rfl
  have e2 : closedL (m.Headers.l.map fun y => strV y.Name) = true := hc
  simp -implicitDefEqProofs [hl,a6,a5,a4,a3,a2,a1,a0,e2,titles]
 by_cases h3 : p = 3
 ·subst h3
  have hl := loop836_6 m hm m.Metas.l 0 [] (by omega) (by omega) rfl (by simp)
  have hc := closed_strs (m.Metas.l.map (·.Name))
  simp -implicitDefEqProofs at hl
  simp only [List.map_map] at hc
  have a7 := skip836_7 m 3 (by decide) []
  simp -implicitDefEqProofs at a7
  have a5 := skip836_5 m 3 (by decide) (m.Metas.l.map fun y => strV y.Name)
  simp -implicitDefEqProofs at a5
  have a4 := skip836_4 m 3 (by decide) (m.Metas.l.map fun y => strV y.Name)
  simp -implicitDefEqProofs at a4
  have a3 := skip836_3 m 3 (by decide) (m.Metas.l.map fun y => strV y.Name)
  simp -implicitDefEqProofs at a3
  have a2 := skip836_2 m 3 (by decide) (m.Metas.l.map fun y => strV y.Name)
  simp -implicitDefEqProofs at a2
  have a1 := skip836_1 m 3 (by decide) (m.Metas.l.map fun y => strV y.Name)
  simp -implicitDefEqProofs at a1
  have a0 := skip836_0 m 3 (by decide) (m.Metas.l.map fun y => strV y.Name)
  simp -implicitDefEqProofs at a0
  have e1 : (List.map ((fun x => strV x) ∘ fun x => x.Name) m.Metas.l) = m.Metas.l.map fun y => strV y.Name := rfl
  have e2 : closedL (m.Metas.l.map fun y => strV y.Name) = true := hc
  simp -implicitDefEqProofs [hl,a7,a5,a4,a3,a2,a1,a0,e2,titles]
 by_cases h4 : p = 4
 ·subst h4
  have hl := loop836_5 m hm m.States.l 0 [] (by omega) (by omega) rfl (by simp)
  have hc := closed_strs (m.States.l.map (·.Name))
  simp -implicitDefEqProofs at hl
  simp only [List.map_map] at hc
  have a7 := skip836_7 m 4 (by decide) []
  simp -implicitDefEqProofs at a7
  have a6 := skip836_6 m 4 (by decide) []
  simp -implicitDefEqProofs at a6
  have a4 := skip836_4 m 4 (by decide) (m.States.l.map fun y => strV y.Name)
  simp -implicitDefEqProofs at a4
  have a3 := skip836_3 m 4 (by decide) (m.States.l.map fun y => strV y.Name)
  simp -implicitDefEqProofs at a3
  have a2 := skip836_2 m 4 (by decide) (m.States.l.map fun y => strV y.Name)
  simp -implicitDefEqProofs at a2
  have a1 := skip836_1 m 4 (by decide) (m.States.l.map fun y => strV y.Name)
  simp -implicitDefEqProofs at a1
  have a0 := skip836_0 m 4 (by decide) (m.States.l.map fun y => strV y.Name)
  simp -implicitDefEqProofs at a0
  have e1 : (List.map ((fun x => strV x) ∘ fun x => x.Name) m.States.l) = m.States.l.map fun y => strV y.Name := rfl
  have e2 : closedL (m.States.l.map fun y => strV y.Name) = true := hc
  simp -implicitDefEqProofs [hl,a7,a6,a4,a3,a2,a1,a0,e2,titles]
 by_cases h5 : p = 5
 ·subst h5
  have hl := loop836_4 m hm m.Actions.l 0 [] (by omega) (by omega) rfl (by simp)
  have hc := closed_strs (m.Actions.l.map (·.Name))
  simp -implicitDefEqProofs at hl
  simp only [List.map_map] at hc
  have a7 := skip836_7 m 5 (by decide) []
  simp -implicitDefEqProofs at a7
  have a6 := skip836_6 m 5 (by decide) []
  simp -implicitDefEqProofs at a6
  have a5 := skip836_5 m 5 (by decide) []
  simp -implicitDefEqProofs at a5
  have a3 := skip836_3 m 5 (by decide) (m.Actions.l.map fun y => strV y.Name)
  simp -implicitDefEqProofs at a3
  have a2 := skip836_2 m 5 (by decide) (m.Actions.l.map fun y => strV y.Name)
  simp -implicitDefEqProofs at a2
  have a1 := skip836_1 m 5 (by decide) (m.Actions.l.map fun y => strV y.Name)
  simp -implicitDefEqProofs at a1
  have a0 := skip836_0 m 5 (by decide) (m.Actions.l.map fun y => strV y.Name)
  simp -implicitDefEqProofs at a0
  have e1 : (List.map ((fun x => strV x) ∘ fun x => x.Name) m.Actions.l) = m.Actions.l.map fun y => strV y.Name := rfl
  have e2 : closedL (m.Actions.l.map fun y => strV y.Name) = true := hc
  simp -implicitDefEqProofs [hl,a7,a6,a5,a3,a2,a1,a0,e2,titles]
 by_cases h6 : p = 6
 ·subst h6
  have hl := loop836_3 m hm m.Tables.l 0 [] (by omega) (by omega) rfl (by simp)
  have hc := closed_strs (m.Tables.l.map (·.Name))
  simp -implicitDefEqProofs at hl
  simp only [List.map_map] at hc
  have a7 := skip836_7 m 6 (by decide) []
  simp -implicitDefEqProofs at a7
  have a6 := skip836_6 m 6 (by decide) []
  simp -implicitDefEqProofs at a6
  have a5 := skip836_5 m 6 (by decide) []
  simp -implicitDefEqProofs at a5
  have a4 := skip836_4 m 6 (by decide) []
  simp -implicitDefEqProofs at a4
  have a2 := skip836_2 m 6 (by decide) (m.Tables.l.map fun y => strV y.Name)
  simp -implicitDefEqProofs at a2
  have a1 := skip836_1 m 6 (by decide) (m.Tables.l.map fun y => strV y.Name)
  simp -implicitDefEqProofs at a1
  have a0 := skip836_0 m 6 (by decide) (m.Tables.l.map fun y => strV y.Name)
  simp -implicitDefEqProofs at a0
  have e1 : (List.map ((fun x => strV x) ∘ fun x => x.Name) m.Tables.l) = m.Tables.l.map fun y => strV y.Name := rfl
  have e2 : closedL (m.Tables.l.map fun y => strV y.Name) = true := hc
  simp -implicitDefEqProofs [hl,a7,a6,a5,a4,a2,a1,a0,e2,titles]
 by_cases h12 : p = 12
 ·subst h12
  have hl := loop836_2 m hm m.Regs.l 0 [] (by omega) (by omega) rfl (by simp)
  have hc := closed_strs (m.Regs.l.map (·.Name))
  simp -implicitDefEqProofs at hl
  simp only [List.map_map] at hc
  have a7 := skip836_7 m 12 (by decide) []
  simp -implicitDefEqProofs at a7
  have a6 := skip836_6 m 12 (by decide) []
  simp -implicitDefEqProofs at a6
  have a5 := skip836_5 m 12 (by decide) []
  simp -implicitDefEqProofs at a5
  have a4 := skip836_4 m 12 (by decide) []
  simp -implicitDefEqProofs at a4
  have a3 := skip836_3 m 12 (by decide) []
  simp -implicitDefEqProofs at a3
  have a1 := skip836_1 m 12 (by decide) (m.Regs.l.map fun y => strV y.Name)
  simp -implicitDefEqProofs at a1
  have a0 := skip836_0 m 12 (by decide) (m.Regs.l.map fun y => strV y.Name)
  simp -implicitDefEqProofs at a0
  have e1 : (List.map ((fun x => strV x) ∘ fun x => x.Name) m.Regs.l) = m.Regs.l.map fun y => strV y.Name := rfl
  have e2 : closedL (m.Regs.l.map fun y => strV y.Name) = true := hc
  simp -implicitDefEqProofs [hl,a7,a6,a5,a4,a3,a1,a0,e2,titles]
 by_cases h13 : p = 13
 ·subst h13
  have hl := loop836_1 m hm m.Counters.l 0 [] (by omega) (by omega) rfl (by simp)
  have hc := closed_strs (m.Counters.l.map (·.Name))
  simp -implicitDefEqProofs at hl
  simp only [List.map_map] at hc
  have a7 := skip836_7 m 13 (by decide) []
  simp -implicitDefEqProofs at a7
  have a6 := skip836_6 m 13 (by decide) []
  simp -implicitDefEqProofs at a6
  have a5 := skip836_5 m 13 (by decide) []
  simp -implicitDefEqProofs at a5
  have a4 := skip836_4 m 13 (by decide) []
  simp -implicitDefEqProofs at a4
  have a3 := skip836_3 m 13 (by decide) []
  simp -implicitDefEqProofs at a3
  have a2 := skip836_2 m 13 (by decide) []
  simp -implicitDefEqProofs at a2
  have a0 := skip836_0 m 13 (by decide) (m.Counters.l.map fun y => strV y.Name)
  simp -implicitDefEqProofs at a0
  have e1 : (List.map ((fun x => strV x) ∘ fun x => x.Name) m.Counters.l) = m.Counters.l.map fun y => strV y.Name := rfl
  have e2 : closedL (m.Counters.l.map fun y => strV y.Name) = true := hc
  simp -implicitDefEqProofs [hl,a7,a6,a5,a4,a3,a2,a0,e2,titles]
 by_cases h14 : p = 14
 ·subst h14
  have hl := loop836_0 m hm m.Meters.l 0 [] (by omega) (by omega) rfl (by simp)
  have hc := closed_strs (m.Meters.l.map (·.Name))
  simp -implicitDefEqProofs at hl
  simp only [List.map_map] at hc
  have a7 := skip836_7 m 14 (by decide) []
  simp -implicitDefEqProofs at a7
  have a6 := skip836_6 m 14 (by decide) []
  simp -implicitDefEqProofs at a6
  have a5 := skip836_5 m 14 (by decide) []
  simp -implicitDefEqProofs at a5
  have a4 := skip836_4 m 14 (by decide) []
  simp -implicitDefEqProofs at a4
  have a3 := skip836_3 m 14 (by decide) []
  simp -implicitDefEqProofs at a3
  have a2 := skip836_2 m 14 (by decide) []
  simp -implicitDefEqProofs at a2
  have a1 := skip836_1 m 14 (by decide) []
  simp -implicitDefEqProofs at a1
  have e1 : (List.map ((fun x => strV x) ∘ fun x => x.Name) m.Meters.l) = m.Meters.l.map fun y => strV y.Name := rfl
  have e2 : closedL (m.Meters.l.map fun y => strV y.Name) = true := hc
  simp -implicitDefEqProofs [hl,a7,a6,a5,a4,a3,a2,a1,e2,titles]
 have a7 := skip836_7 m p h1 []
 simp -implicitDefEqProofs at a7
 have a6 := skip836_6 m p h3 []
 simp -implicitDefEqProofs at a6
 have a5 := skip836_5 m p h4 []
 simp -implicitDefEqProofs at a5
 have a4 := skip836_4 m p h5 []
 simp -implicitDefEqProofs at a4
 have a3 := skip836_3 m p h6 []
 simp -implicitDefEqProofs at a3
 have a2 := skip836_2 m p h12 []
 simp -implicitDefEqProofs at a2
 have a1 := skip836_1 m p h13 []
 simp -implicitDefEqProofs at a1
 have a0 := skip836_0 m p h14 []
 simp -implicitDefEqProofs at a0
 simp -implicitDefEqProofs [a7,a6,a5,a4,a3,a2,a1,a0,titles,h1,h3,h4,h5,h6,h12,h13,h14]
theorem loop657 (l : List GS) (t : Tag) (hb : l.length ≤ 5900000000000) : ∀ (r : List GS) (k : Int), 0 ≤ k → k ≤ l.length → l.drop k.toNat = r →
    (orc vp).loop 0 [0, 3] L657_0 [(0, .sl 1 (l.map strV) t), (3, .int .i64 k)] [] =
      some (if (r.all fun s => decide (s.s.length ≤ 100)) = true then (.brk 0, [(0, .sl 1 (l.map strV) t), (3, .int .i64 l.length), (7, .bool false)], []) else (.ret, [(2, .bool false)], [])) := by
  intro r
  induction r with
  | nil =>
    intro k hk hkl hd
    have hle := drop_nil hk hd
    have hlt : ¬ k < l.length := by omega
    have he : k = l.length := by omega
    rw [lp657_0]
    simp -implicitDefEqProofs [hlt, he]
  | cons y r ih =>
    intro k hk hkl hd
    obtain ⟨hg, hlt, hd'⟩ := drop_cons hk hd
    have w1 : IntKind.i64.wrap (k + 1) = k + 1 := wrap64 (by omega) (by omega)
    have hi := ih (k + 1) (by omega) (by omega) hd'
    rw [lp657_0]
    by_cases hy : y.s.length ≤ 100
    · have hy' : ¬ (100 : Int) < y.s.length := by omega
      simp -implicitDefEqProofs [hlt, w1, hi, hg, hy, hy', strV]
    · have hy' : (100 : Int) < y.s.length := by omega
      simp -implicitDefEqProofs [hlt, hg, hy, hy', strV]
def briefB (l : List GS) : Bool := (l.all fun s => decide (s.s.length ≤ 100)) && decide (l.length ≤ 70)
@[simp] theorem brief657 (l : List GS) (t : Tag) (hb : l.length ≤ 5900000000000) : callRO vp 657 [.sl 1 (l.map strV) t] = some (.bool (briefB l)) := by
 have h := loop657 l t hb l 0 (by omega) (by omega) rfl
 rw [callRO_K fn657]
 unfold briefB
 by_cases ha : (l.all fun s => decide (s.s.length ≤ 100)) = true
 ·rw [if_pos ha] at h
  simp -implicitDefEqProofs [h,ha]
  omega
 ·rw [if_neg ha] at h
  simp only [Bool.not_eq_true] at ha
  simp -implicitDefEqProofs [h,ha]
theorem titles_len {m : Image} (hm : Held m) (p : Int) : (titles m p).length ≤ 5900000000000 := by
 unfold titles
 obtain ⟨h1,h2,h3,h4,h5,h6,h7,h8⟩ := hm
 repeat' split
 all_goals simp
 all_goals assumption
end Go.VE.Un
namespace Go.VE.Un
open Go.VE
set_option linter.unusedVariables false
set_option linter.unusedSimpArgs false
def sumN {α : Type} (f : α → Nat) : List α → Nat
 | [] => 0
 | x :: l => f x + sumN f l
theorem sumN_le {α : Type} (f : α → Nat) (b : Nat) (hb : ∀ x,f x ≤ b) (l : List α) : sumN f l ≤ b * l.length := by
 induction l with
 | nil => simp [sumN]
 | cons x l ih => have := hb x; simp only [sumN,List.length_cons,Nat.mul_add]; omega
def szState (x : State) : Nat := x.Exts.l.length + x.Keys.l.length + x.Cases.l.length
theorem szState_le (x : State) : szState x ≤ 422212465065984 := by
 have h0 := x.Exts.le; have h1 := x.Keys.le; have h2 := x.Cases.le
 unfold szState; omega
theorem loop658_4 (m : Image) (hb : m.States.l.length ≤ 70) : ∀ (r : List State) (k n : Int), 0 ≤ k → k ≤ m.States.l.length → m.States.l.drop k.toNat = r → 0 ≤ n → n ≤ 400000000000000000 + k * 422212465065984 →
    (orc vp).loop 0 [1, 4, 8] L658_4 [(1, .ptr 0 1 0 0), (4, .int .i64 n), (8, .int .i64 k)] [.arr [m.v]] =
     some (.brk 8, [(1, .ptr 0 1 0 0), (4, .int .i64 (n + (sumN szState r : Nat))), (8, .int .i64 m.States.l.length), (111, .bool false)], [.arr [m.v]]) := by
  intro r
  induction r with
  | nil =>
    intro k n hk hkl hd h0 h1
    have hle := drop_nil hk hd
    have hlt : ¬ k < m.States.l.length := by omega
    have he : k = m.States.l.length := by omega
    rw [lp658_4]
    simp -implicitDefEqProofs [hlt, he, sumN]
  | cons x r ih =>
    intro k n hk hkl hd h0 h1
    obtain ⟨hg, hlt, hd'⟩ := drop_cons hk hd
    have l0 := x.Exts.le
    have l1 := x.Keys.le
    have l2 := x.Cases.le
    have w1 : IntKind.i64.wrap (k + 1) = k + 1 := wrap64 (by omega) (by omega)
    have v0 : IntKind.i64.wrap (n + (x.Exts.l.length : Int)) = (n + (x.Exts.l.length : Int)) := wrap64 (by omega) (by omega)
    have v1 : IntKind.i64.wrap ((n + (x.Exts.l.length : Int)) + (x.Keys.l.length : Int)) = ((n + (x.Exts.l.length : Int)) + (x.Keys.l.length : Int)) := wrap64 (by omega) (by omega)
    have v2 : IntKind.i64.wrap (((n + (x.Exts.l.length : Int)) + (x.Keys.l.length : Int)) + (x.Cases.l.length : Int)) = (((n + (x.Exts.l.length : Int)) + (x.Keys.l.length : Int)) + (x.Cases.l.length : Int)) := wrap64 (by omega) (by omega)
    have hi := ih (k + 1) (((n + (x.Exts.l.length : Int)) + (x.Keys.l.length : Int)) + (x.Cases.l.length : Int)) (by omega) (by omega) hd' (by omega) (by omega)
    rw [lp658_4]
    simp -implicitDefEqProofs [hlt, hg, w1, v0, v1, v2, hi, sumN, szState]
    omega
def szAction (x : Action) : Nat := x.Params.l.length + x.Code.l.length
theorem szAction_le (x : Action) : szAction x ≤ 422212465065984 := by
 have h0 := x.Params.le; have h1 := x.Code.le
 unfold szAction; omega
theorem loop658_3 (m : Image) (hb : m.Actions.l.length ≤ 70) : ∀ (r : List Action) (k n : Int), 0 ≤ k → k ≤ m.Actions.l.length → m.Actions.l.drop k.toNat = r → 0 ≤ n → n ≤ 400000000000000000 + k * 422212465065984 →
    (orc vp).loop 0 [1, 4, 9] L658_3 [(1, .ptr 0 1 0 0), (4, .int .i64 n), (9, .int .i64 k)] [.arr [m.v]] =
     some (.brk 10, [(1, .ptr 0 1 0 0), (4, .int .i64 (n + (sumN szAction r : Nat))), (9, .int .i64 m.Actions.l.length), (143, .bool false)], [.arr [m.v]]) := by
  intro r
  induction r with
  | nil =>
    intro k n hk hkl hd h0 h1
    have hle := drop_nil hk hd
    have hlt : ¬ k < m.Actions.l.length := by omega
    have he : k = m.Actions.l.length := by omega
    rw [lp658_3]
    simp -implicitDefEqProofs [hlt, he, sumN]
  | cons x r ih =>
    intro k n hk hkl hd h0 h1
    obtain ⟨hg, hlt, hd'⟩ := drop_cons hk hd
    have l0 := x.Params.le
    have l1 := x.Code.le
    have w1 : IntKind.i64.wrap (k + 1) = k + 1 := wrap64 (by omega) (by omega)
    have v0 : IntKind.i64.wrap (n + (x.Params.l.length : Int)) = (n + (x.Params.l.length : Int)) := wrap64 (by omega) (by omega)
    have v1 : IntKind.i64.wrap ((n + (x.Params.l.length : Int)) + (x.Code.l.length : Int)) = ((n + (x.Params.l.length : Int)) + (x.Code.l.length : Int)) := wrap64 (by omega) (by omega)
    have hi := ih (k + 1) ((n + (x.Params.l.length : Int)) + (x.Code.l.length : Int)) (by omega) (by omega) hd' (by omega) (by omega)
    rw [lp658_3]
    simp -implicitDefEqProofs [hlt, hg, w1, v0, v1, hi, sumN, szAction]
    omega
def szTable (x : Table) : Nat := x.Keys.l.length + x.Actions.l.length + x.Default.Args.l.length
theorem szTable_le (x : Table) : szTable x ≤ 422212465065984 := by
 have h0 := x.Keys.le; have h1 := x.Actions.le; have h2 := x.Default.Args.le
 unfold szTable; omega
theorem loop658_2 (m : Image) (hb : m.Tables.l.length ≤ 70) : ∀ (r : List Table) (k n : Int), 0 ≤ k → k ≤ m.Tables.l.length → m.Tables.l.drop k.toNat = r → 0 ≤ n → n ≤ 400000000000000000 + k * 422212465065984 →
    (orc vp).loop 0 [1, 4, 10] L658_2 [(1, .ptr 0 1 0 0), (4, .int .i64 n), (10, .int .i64 k)] [.arr [m.v]] =
     some (.brk 12, [(1, .ptr 0 1 0 0), (4, .int .i64 (n + (sumN szTable r : Nat))), (10, .int .i64 m.Tables.l.length), (167, .bool false)], [.arr [m.v]]) := by
  intro r
  induction r with
  | nil =>
    intro k n hk hkl hd h0 h1
    have hle := drop_nil hk hd
    have hlt : ¬ k < m.Tables.l.length := by omega
    have he : k = m.Tables.l.length := by omega
    rw [lp658_2]
    simp -implicitDefEqProofs [hlt, he, sumN]
  | cons x r ih =>
    intro k n hk hkl hd h0 h1
    obtain ⟨hg, hlt, hd'⟩ := drop_cons hk hd
    have l0 := x.Keys.le
    have l1 := x.Actions.le
    have l2 := x.Default.Args.le
    have w1 : IntKind.i64.wrap (k + 1) = k + 1 := wrap64 (by omega) (by omega)
    have v0 : IntKind.i64.wrap (n + (x.Keys.l.length : Int)) = (n + (x.Keys.l.length : Int)) := wrap64 (by omega) (by omega)
    have v1 : IntKind.i64.wrap ((n + (x.Keys.l.length : Int)) + (x.Actions.l.length : Int)) = ((n + (x.Keys.l.length : Int)) + (x.Actions.l.length : Int)) := wrap64 (by omega) (by omega)
    have v2 : IntKind.i64.wrap (((n + (x.Keys.l.length : Int)) + (x.Actions.l.length : Int)) + (x.Default.Args.l.length : Int)) = (((n + (x.Keys.l.length : Int)) + (x.Actions.l.length : Int)) + (x.Default.Args.l.length : Int)) := wrap64 (by omega) (by omega)
    have hi := ih (k + 1) (((n + (x.Keys.l.length : Int)) + (x.Actions.l.length : Int)) + (x.Default.Args.l.length : Int)) (by omega) (by omega) hd' (by omega) (by omega)
    rw [lp658_2]
    simp -implicitDefEqProofs [hlt, hg, w1, v0, v1, v2, hi, sumN, szTable]
    omega
def szNode (x : Node) : Nat := x.Code.l.length + x.Args.l.length
theorem szNode_le (x : Node) : szNode x ≤ 422212465065984 := by
 have h0 := x.Code.le; have h1 := x.Args.le
 unfold szNode; omega
theorem loop658_1 (m : Image) : ∀ (r : List Node) (k n : Int), 0 ≤ k → k ≤ m.Ingress.l.length → k ≤ 300 → (m.Ingress.l.take 300).drop k.toNat = r → 0 ≤ n → n ≤ 600000000000000000 + k * 422212465065984 → ∃ k' c : V,
    (orc vp).loop 0 [1, 4, 11] L658_1 [(1, .ptr 0 1 0 0), (4, .int .i64 n), (11, .int .i64 k)] [.arr [m.v]] =
     some (.brk 14, [(1, .ptr 0 1 0 0), (4, .int .i64 (n + (sumN szNode r : Nat))), (11, k'), (204, c)], [.arr [m.v]]) := by
  intro r
  induction r with
  | nil =>
    intro k n hk hkl hk3 hd h0 h1
    have hle := drop_nil hk hd
    simp only [List.length_take] at hle
    rw [lp658_1]
    by_cases hlt : k < m.Ingress.l.length
    · have h3 : ¬ k < 300 := by omega
      exact ⟨.int .i64 k, .bool false, by simp -implicitDefEqProofs [hlt, h3, sumN]⟩
    · exact ⟨.int .i64 k, .bool false, by simp -implicitDefEqProofs [hlt, sumN]⟩
  | cons x r ih =>
    intro k n hk hkl hk3 hd h0 h1
    obtain ⟨hg', hlt', hd'⟩ := drop_cons hk hd
    simp only [List.length_take] at hlt'
    have hlt : k < m.Ingress.l.length := by omega
    have h3 : k < 300 := by omega
    have hg : getI m.Ingress.l k = some x := by
      have h4 : k.toNat < 300 := by omega
      unfold getI at hg' ⊢; rw [if_pos hk] at hg' ⊢; rw [List.getElem?_take, if_pos h4] at hg'; exact hg'
    have l0 := x.Code.le
    have l1 := x.Args.le
    have w1 : IntKind.i64.wrap (k + 1) = k + 1 := wrap64 (by omega) (by omega)
    have v0 : IntKind.i64.wrap (n + (x.Code.l.length : Int)) = (n + (x.Code.l.length : Int)) := wrap64 (by omega) (by omega)
    have v1 : IntKind.i64.wrap ((n + (x.Code.l.length : Int)) + (x.Args.l.length : Int)) = ((n + (x.Code.l.length : Int)) + (x.Args.l.length : Int)) := wrap64 (by omega) (by omega)
    obtain ⟨k', c, hi⟩ := ih (k + 1) ((n + (x.Code.l.length : Int)) + (x.Args.l.length : Int)) (by omega) (by omega) (by omega) hd' (by omega) (by omega)
    refine ⟨k', c, ?_⟩
    rw [lp658_1]
    simp -implicitDefEqProofs [hlt, h3, hg, w1, v0, v1, hi, sumN, szNode]
    omega
theorem loop658_0 (m : Image) : ∀ (r : List Node) (k n : Int), 0 ≤ k → k ≤ m.Egress.l.length → k ≤ 300 → (m.Egress.l.take 300).drop k.toNat = r → 0 ≤ n → n ≤ 600000000000000000 + k * 422212465065984 → ∃ k' c : V,
    (orc vp).loop 0 [1, 4, 12] L658_0 [(1, .ptr 0 1 0 0), (4, .int .i64 n), (12, .int .i64 k)] [.arr [m.v]] =
     some (.brk 16, [(1, .ptr 0 1 0 0), (4, .int .i64 (n + (sumN szNode r : Nat))), (12, k'), (232, c)], [.arr [m.v]]) := by
  intro r
  induction r with
  | nil =>
    intro k n hk hkl hk3 hd h0 h1
    have hle := drop_nil hk hd
    simp only [List.length_take] at hle
    rw [lp658_0]
    by_cases hlt : k < m.Egress.l.length
    · have h3 : ¬ k < 300 := by omega
      exact ⟨.int .i64 k, .bool false, by simp -implicitDefEqProofs [hlt, h3, sumN]⟩
    · exact ⟨.int .i64 k, .bool false, by simp -implicitDefEqProofs [hlt, sumN]⟩
  | cons x r ih =>
    intro k n hk hkl hk3 hd h0 h1
    obtain ⟨hg', hlt', hd'⟩ := drop_cons hk hd
    simp only [List.length_take] at hlt'
    have hlt : k < m.Egress.l.length := by omega
    have h3 : k < 300 := by omega
    have hg : getI m.Egress.l k = some x := by
      have h4 : k.toNat < 300 := by omega
      unfold getI at hg' ⊢; rw [if_pos hk] at hg' ⊢; rw [List.getElem?_take, if_pos h4] at hg'; exact hg'
    have l0 := x.Code.le
    have l1 := x.Args.le
    have w1 : IntKind.i64.wrap (k + 1) = k + 1 := wrap64 (by omega) (by omega)
    have v0 : IntKind.i64.wrap (n + (x.Code.l.length : Int)) = (n + (x.Code.l.length : Int)) := wrap64 (by omega) (by omega)
    have v1 : IntKind.i64.wrap ((n + (x.Code.l.length : Int)) + (x.Args.l.length : Int)) = ((n + (x.Code.l.length : Int)) + (x.Args.l.length : Int)) := wrap64 (by omega) (by omega)
    obtain ⟨k', c, hi⟩ := ih (k + 1) ((n + (x.Code.l.length : Int)) + (x.Args.l.length : Int)) (by omega) (by omega) (by omega) hd' (by omega) (by omega)
    refine ⟨k', c, ?_⟩
    rw [lp658_0]
    simp -implicitDefEqProofs [hlt, h3, hg, w1, v0, v1, hi, sumN, szNode]
    omega
def namesB (l : List Field) : Bool := l.all fun x => decide (x.Name.s.length ≤ 100)
theorem loop658_6 (m : Image) (y : Header) (k n : Int) (hy : getI m.Headers.l k = some y) : ∀ (r : List Field) (j : Int), 0 ≤ j → j ≤ y.Fields.l.length → j ≤ 300 → (y.Fields.l.take 300).drop j.toNat = r → ∃ j' c : V,
    (orc vp).loop 0 [1, 4, 5, 6] L658_6 [(1, .ptr 0 1 0 0), (4, .int .i64 n), (5, .int .i64 k), (6, .int .i64 j)] [.arr [m.v]] =
     some (if namesB r = true then (.brk 4, [(1, .ptr 0 1 0 0), (4, .int .i64 n), (5, .int .i64 k), (6, j'), (73, c)], [.arr [m.v]]) else (.ret, [(2, .bool false)], [.arr [m.v]])) := by
  intro r
  induction r with
  | nil =>
    intro j hk hkl hk3 hd
    have hle := drop_nil hk hd
    simp only [List.length_take] at hle
    rw [lp658_6]
    by_cases hlt : j < y.Fields.l.length
    · have h3 : ¬ j < 300 := by omega
      exact ⟨.int .i64 j, .bool false, by simp -implicitDefEqProofs [hlt, h3, hy, namesB]⟩
    · exact ⟨.int .i64 j, .bool false, by simp -implicitDefEqProofs [hlt, hy, namesB]⟩
  | cons x r ih =>
    intro j hk hkl hk3 hd
    obtain ⟨hg', hlt', hd'⟩ := drop_cons hk hd
    simp only [List.length_take] at hlt'
    have hlt : j < y.Fields.l.length := by omega
    have h3 : j < 300 := by omega
    have hg : getI y.Fields.l j = some x := by
      have h4 : j.toNat < 300 := by omega
      unfold getI at hg' ⊢; rw [if_pos hk] at hg' ⊢; rw [List.getElem?_take, if_pos h4] at hg'; exact hg'
    have w1 : IntKind.i64.wrap (j + 1) = j + 1 := wrap64 (by omega) (by omega)
    obtain ⟨j', c, hi⟩ := ih (j + 1) (by omega) (by omega) (by omega) hd'
    refine ⟨j', c, ?_⟩
    rw [lp658_6]
    by_cases hx : x.Name.s.length ≤ 100
    · have hx' : ¬ (100 : Int) < x.Name.s.length := by omega
      have hn : namesB (x :: r) = namesB r := by simp [namesB, hx]
      rw [hn]
      simp -implicitDefEqProofs [hlt, h3, hg, hy, w1, hi, hx']
    · have hx' : (100 : Int) < x.Name.s.length := by omega
      have hn : namesB (x :: r) = false := by simp [namesB, hx]
      rw [hn]
      simp -implicitDefEqProofs [hlt, h3, hg, hy, hx']
def hdrsB (l : List Header) : Bool := l.all fun h => namesB (h.Fields.l.take 300)
def szHeader (x : Header) : Nat := x.Fields.l.length
theorem loop658_7 (m : Image) (hb : m.Headers.l.length ≤ 70) : ∀ (r : List Header) (k n : Int), 0 ≤ k → k ≤ m.Headers.l.length → m.Headers.l.drop k.toNat = r → 0 ≤ n → n ≤ 300000000000000000 + k * 422212465065984 →
    (orc vp).loop 0 [1, 4, 5] L658_7 [(1, .ptr 0 1 0 0), (4, .int .i64 n), (5, .int .i64 k)] [.arr [m.v]] =
     some (if hdrsB r = true then (.brk 2, [(1, .ptr 0 1 0 0), (4, .int .i64 (n + (sumN szHeader r : Nat))), (5, .int .i64 m.Headers.l.length), (49, .bool false)], [.arr [m.v]]) else (.ret, [(2, .bool false)], [.arr [m.v]])) := by
  intro r
  induction r with
  | nil =>
    intro k n hk hkl hd h0 h1
    have hle := drop_nil hk hd
    have hlt : ¬ k < m.Headers.l.length := by omega
    have he : k = m.Headers.l.length := by omega
    rw [lp658_7]
    simp -implicitDefEqProofs [hlt, he, sumN, hdrsB]
  | cons x r ih =>
    intro k n hk hkl hd h0 h1
    obtain ⟨hg, hlt, hd'⟩ := drop_cons hk hd
    have hl := x.Fields.le
    have w1 : IntKind.i64.wrap (k + 1) = k + 1 := wrap64 (by omega) (by omega)
    have v0 : IntKind.i64.wrap (n + (x.Fields.l.length : Int)) = n + (x.Fields.l.length : Int) := wrap64 (by omega) (by omega)
    have hi := ih (k + 1) (n + (x.Fields.l.length : Int)) (by omega) (by omega) hd' (by omega) (by omega)
    obtain ⟨j', c, h6⟩ := loop658_6 m x k (n + (x.Fields.l.length : Int)) hg _ 0 (by omega) (by omega) (by omega) rfl
    simp only [Int.toNat_zero, List.drop_zero] at h6
    rw [lp658_7]
    by_cases hx : namesB (x.Fields.l.take 300) = true
    · rw [if_pos hx] at h6
      have hn : hdrsB (x :: r) = hdrsB r := by simp [hdrsB, hx]
      rw [hn]
      simp -implicitDefEqProofs [hlt, hg, w1, v0, h6, hi, sumN, szHeader, Int.add_assoc]
    · rw [if_neg hx] at h6
      have hn : hdrsB (x :: r) = false := by simp [hdrsB]; intro h; exact absurd h hx
      rw [hn]
      simp -implicitDefEqProofs [hlt, hg, v0, h6]
def instsB (l : List Inst) : Bool := l.all fun x => decide (x.Name.s.length ≤ 100)
theorem loop658_5 (m : Image) (n : Int) : ∀ (r : List Inst) (j : Int), 0 ≤ j → j ≤ m.Insts.l.length → j ≤ 300 → (m.Insts.l.take 300).drop j.toNat = r → ∃ j' c : V,
    (orc vp).loop 0 [1, 4, 7] L658_5 [(1, .ptr 0 1 0 0), (4, .int .i64 n), (7, .int .i64 j)] [.arr [m.v]] =
     some (if instsB r = true then (.brk 6, [(1, .ptr 0 1 0 0), (4, .int .i64 n), (7, j'), (96, c)], [.arr [m.v]]) else (.ret, [(2, .bool false)], [.arr [m.v]])) := by
  intro r
  induction r with
  | nil =>
    intro j hk hkl hk3 hd
    have hle := drop_nil hk hd
    simp only [List.length_take] at hle
    rw [lp658_5]
    by_cases hlt : j < m.Insts.l.length
    · have h3 : ¬ j < 300 := by omega
      exact ⟨.int .i64 j, .bool false, by simp -implicitDefEqProofs [hlt, h3, instsB]⟩
    · exact ⟨.int .i64 j, .bool false, by simp -implicitDefEqProofs [hlt, instsB]⟩
  | cons x r ih =>
    intro j hk hkl hk3 hd
    obtain ⟨hg', hlt', hd'⟩ := drop_cons hk hd
    simp only [List.length_take] at hlt'
    have hlt : j < m.Insts.l.length := by omega
    have h3 : j < 300 := by omega
    have hg : getI m.Insts.l j = some x := by
      have h4 : j.toNat < 300 := by omega
      unfold getI at hg' ⊢; rw [if_pos hk] at hg' ⊢; rw [List.getElem?_take, if_pos h4] at hg'; exact hg'
    have w1 : IntKind.i64.wrap (j + 1) = j + 1 := wrap64 (by omega) (by omega)
    obtain ⟨j', c, hi⟩ := ih (j + 1) (by omega) (by omega) (by omega) hd'
    refine ⟨j', c, ?_⟩
    rw [lp658_5]
    by_cases hx : x.Name.s.length ≤ 100
    · have hx' : ¬ (100 : Int) < x.Name.s.length := by omega
      have hn : instsB (x :: r) = instsB r := by simp [instsB, hx]
      rw [hn]
      simp -implicitDefEqProofs [hlt, h3, hg, w1, hi, hx']
    · have hx' : (100 : Int) < x.Name.s.length := by omega
      have hn : instsB (x :: r) = false := by simp [instsB, hx]
      rw [hn]
      simp -implicitDefEqProofs [hlt, h3, hg, hx']
def partsB (m : Image) (p : Int) : Nat → Bool
 | 0 => true
 | j + 1 => briefB (titles m p) && partsB m (p + 1) j
theorem loop658_8 (m : Image) (hm : Held m) : ∀ (j : Nat) (p : Int), 0 ≤ p → p + j = 15 →
    (orc vp).loop 0 [1, 3] L658_8 [(1, .ptr 0 1 0 0), (3, .int .i64 p)] [.arr [m.v]] =
     some (if partsB m p j = true then (.brk 0, [(1, .ptr 0 1 0 0), (3, .int .i64 15), (14, .bool false)], [.arr [m.v]]) else (.ret, [(2, .bool false)], [.arr [m.v]])) := by
  intro j
  induction j with
  | zero =>
    intro p h0 h1
    have he : p = 15 := by omega
    subst he
    rw [lp658_8]
    simp -implicitDefEqProofs [partsB]
  | succ j ih =>
    intro p h0 h1
    have hlt : p < 15 := by omega
    have w1 : IntKind.i64.wrap (p + 1) = p + 1 := wrap64 (by omega) (by omega)
    have hi := ih (p + 1) (by omega) (by omega)
    have hl := titles_len hm p
    rw [lp658_8]
    cases hb : briefB (titles m p)
    · simp -implicitDefEqProofs [partsB, hlt, hb, hm, hl]
    · simp -implicitDefEqProofs [partsB, hlt, hb, hm, hl, w1, hi]
def sizeN (m : Image) : Nat := m.Insts.l.length + m.Ingress.l.length + m.Egress.l.length + m.Deparse.l.length + m.Checks.l.length + m.Updates.l.length + sumN szHeader m.Headers.l +
 sumN szState m.States.l + sumN szAction m.Actions.l + sumN szTable m.Tables.l + sumN szNode (m.Ingress.l.take 300) + sumN szNode (m.Egress.l.take 300)
def lightB (m : Image) : Bool := partsB m 0 15 && hdrsB m.Headers.l && instsB (m.Insts.l.take 300) && decide (sizeN m ≤ 900) && decide (m.Name.s.length ≤ 200)
theorem parts_brief {m : Image} : ∀ (j : Nat) (p q : Int), partsB m p j = true → p ≤ q → q < p + j → briefB (titles m q) = true
  | 0, p, q, _, h1, h2 => by omega
  | j + 1, p, q, h, h1, h2 => by
    simp only [partsB, Bool.and_eq_true] at h
    by_cases he : p = q
    · subst he; exact h.1
    · exact parts_brief j (p + 1) q h.2 (by omega) (by omega)
theorem brief_len {l : List GS} (h : briefB l = true) : l.length ≤ 70 := by
 simp only [briefB,Bool.and_eq_true,decide_eq_true_eq] at h; exact h.2
@[simp] theorem light658 (m : Image) (hm : Held m) : callRO vp 658 [m.v] = some (.bool (lightB m)) := by
 have h8 := loop658_8 m hm 15 0 (by omega) (by omega)
 rw [callRO_K fn658]
 by_cases hp : partsB m 0 15 = true
 ·rw [if_pos hp] at h8
  have b1 : m.Headers.l.length ≤ 70 := by have := brief_len (parts_brief 15 0 1 hp (by omega) (by omega)); simpa [titles] using this
  have b4 : m.States.l.length ≤ 70 := by have := brief_len (parts_brief 15 0 4 hp (by omega) (by omega)); simpa [titles] using this
  have b5 : m.Actions.l.length ≤ 70 := by have := brief_len (parts_brief 15 0 5 hp (by omega) (by omega)); simpa [titles] using this
  have b6 : m.Tables.l.length ≤ 70 := by have := brief_len (parts_brief 15 0 6 hp (by omega) (by omega)); simpa [titles] using this
  have l1 := m.Insts.le
  have l2 := m.Ingress.le
  have l3 := m.Egress.le
  have l4 := m.Deparse.le
  have l5 := m.Checks.le
  have l6 := m.Updates.le
  have v1 : IntKind.i64.wrap ((m.Insts.l.length : Int) + m.Ingress.l.length) = (m.Insts.l.length : Int) + m.Ingress.l.length := wrap64 (by omega) (by omega)
  have v2 : IntKind.i64.wrap ((m.Insts.l.length : Int) + m.Ingress.l.length + m.Egress.l.length) = (m.Insts.l.length : Int) + m.Ingress.l.length + m.Egress.l.length := wrap64 (by omega) (by omega)
  have v3 : IntKind.i64.wrap ((m.Insts.l.length : Int) + m.Ingress.l.length + m.Egress.l.length + m.Deparse.l.length) = (m.Insts.l.length : Int) + m.Ingress.l.length + m.Egress.l.length + m.Deparse.l.length := wrap64 (by omega) (by omega)
  have v4 : IntKind.i64.wrap ((m.Insts.l.length : Int) + m.Ingress.l.length + m.Egress.l.length + m.Deparse.l.length + m.Checks.l.length) = (m.Insts.l.length : Int) + m.Ingress.l.length + m.Egress.l.length + m.Deparse.l.length + m.Checks.l.length := wrap64 (by omega) (by omega)
  have v5 : IntKind.i64.wrap ((m.Insts.l.length : Int) + m.Ingress.l.length + m.Egress.l.length + m.Deparse.l.length + m.Checks.l.length + m.Updates.l.length) = (m.Insts.l.length : Int) + m.Ingress.l.length + m.Egress.l.length + m.Deparse.l.length + m.Checks.l.length + m.Updates.l.length := wrap64 (by omega) (by omega)
  generalize hN : (m.Insts.l.length : Int) + m.Ingress.l.length + m.Egress.l.length + m.Deparse.l.length + m.Checks.l.length + m.Updates.l.length = N at v5
  have s1 := sumN_le szHeader 140737488355328 (fun x => x.Fields.le) m.Headers.l
  have s2 := sumN_le szState 422212465065984 szState_le m.States.l
  have s3 := sumN_le szAction 422212465065984 szAction_le m.Actions.l
  have s4 := sumN_le szTable 422212465065984 szTable_le m.Tables.l
  have s5 := sumN_le szNode 422212465065984 szNode_le (m.Ingress.l.take 300)
  have t5 : (m.Ingress.l.take 300).length ≤ 300 := by simp; omega
  have h7 := loop658_7 m b1 m.Headers.l 0 N (by omega) (by omega) rfl (by omega) (by omega)
  by_cases hh : hdrsB m.Headers.l = true
  ·rw [if_pos hh] at h7
   generalize hN1 : N + (sumN szHeader m.Headers.l : Nat) = N1 at h7
   obtain ⟨j5,c5,h5⟩ := loop658_5 m N1 _ 0 (by omega) (by omega) (by omega) rfl
   simp only [Int.toNat_zero,List.drop_zero] at h5
   by_cases hi : instsB (m.Insts.l.take 300) = true
   ·rw [if_pos hi] at h5
    have h4 := loop658_4 m b4 m.States.l 0 N1 (by omega) (by omega) rfl (by omega) (by omega)
    generalize hN2 : N1 + (sumN szState m.States.l : Nat) = N2 at h4
    have h3 := loop658_3 m b5 m.Actions.l 0 N2 (by omega) (by omega) rfl (by omega) (by omega)
    generalize hN3 : N2 + (sumN szAction m.Actions.l : Nat) = N3 at h3
    have h2 := loop658_2 m b6 m.Tables.l 0 N3 (by omega) (by omega) rfl (by omega) (by omega)
    generalize hN4 : N3 + (sumN szTable m.Tables.l : Nat) = N4 at h2
    obtain ⟨k1,c1,h1⟩ := loop658_1 m _ 0 N4 (by omega) (by omega) (by omega) rfl (by omega) (by omega)
    simp only [Int.toNat_zero,List.drop_zero] at h1
    generalize hN5 : N4 + (sumN szNode (m.Ingress.l.take 300) : Nat) = N5 at h1
    obtain ⟨k0,c0,h0⟩ := loop658_0 m _ 0 N5 (by omega) (by omega) (by omega) rfl (by omega) (by omega)
    simp only [Int.toNat_zero,List.drop_zero] at h0
    have hz : N5 + (sumN szNode (m.Egress.l.take 300) : Nat) = sizeN m := by unfold sizeN; omega
    rw [hz] at h0
    by_cases hs : sizeN m ≤ 900
    ·have hs' : (sizeN m : Int) ≤ 900 := by omega
     simp -implicitDefEqProofs [h8,v1,v2,v3,v4,v5,hN,h7,h5,h4,h3,h2,h1,h0,hs',lightB,hp,hh,hi,hs]
     omega
    ·have hs' : ¬ (sizeN m : Int) ≤ 900 := by omega
     simp -implicitDefEqProofs [h8,v1,v2,v3,v4,v5,hN,h7,h5,h4,h3,h2,h1,h0,hs',lightB,hp,hh,hi,hs]
   ·rw [if_neg hi] at h5
    simp only [Bool.not_eq_true] at hi
    simp -implicitDefEqProofs [h8,v1,v2,v3,v4,v5,hN,h7,h5,lightB,hp,hh,hi]
  ·rw [if_neg hh] at h7
   simp only [Bool.not_eq_true] at hh
   simp -implicitDefEqProofs [h8,v1,v2,v3,v4,v5,hN,h7,lightB,hp,hh]
 ·rw [if_neg hp] at h8
  simp only [Bool.not_eq_true] at hp
  simp -implicitDefEqProofs [h8,lightB,hp]
end Go.VE.Un
