/- Joined texts: CkF, CkG, CkH, CkI. No condition: what each theorem needs stands in it. -/
import Derived.Test.YtgkdconajdjkgaaGreatCc4
/- Contracts: the names of an image's things. Printed by a program. -/
namespace Go.VE.Un
open Go.VE
set_option linter.unusedVariables false
set_option linter.unusedSimpArgs false
/-- Texts that are short enough to be gone through. -/
def Ok1 (s : GS) : Prop := s.s.length ≤ 35184372088831
/-- An image whose texts are short enough to be gone through. -/
structure Small (m : Image) : Prop where
  hf : ∀ h ∈ m.Headers.l, h.Fields.l.length ≤ 16 → ∀ f ∈ h.Fields.l, f.Name.s.length ≤ 35184372088831
  ins : m.Insts.l.length ≤ 16 → ∀ x ∈ m.Insts.l, x.Name.s.length ≤ 35184372088831
  nHeaders : ∀ x ∈ m.Headers.l, x.Name.s.length ≤ 35184372088831
  nMetas : ∀ x ∈ m.Metas.l, x.Name.s.length ≤ 35184372088831
  nRegs : ∀ x ∈ m.Regs.l, x.Name.s.length ≤ 35184372088831
  nCounters : ∀ x ∈ m.Counters.l, x.Name.s.length ≤ 35184372088831
  nMeters : ∀ x ∈ m.Meters.l, x.Name.s.length ≤ 35184372088831
  nStates : ∀ x ∈ m.States.l, x.Name.s.length ≤ 35184372088831
  nActions : ∀ x ∈ m.Actions.l, x.Name.s.length ≤ 35184372088831
  nTables : ∀ x ∈ m.Tables.l, x.Name.s.length ≤ 35184372088831
/-- Who checks an image, as its methods see it. -/
abbrev chkV (m : Image) : V := .eptr m.v 0 .brw
def nHeaders (m : Image) : List (List UInt8) := m.Headers.l.map fun x => x.Name.s
theorem name119 (m : Image) (i : Int) (x : List UInt8) (h : getI (nHeaders m) i = some x) : callRO vp 119 [.int .i64 i, .eptr (chkV m) 0 .brw] = some (.str x) := by
  simp only [nHeaders, getI_map, Option.map_eq_some_iff] at h
  obtain ⟨a, ha, rfl⟩ := h
  rw [callRO_K fn119]
  simp -implicitDefEqProofs [f119, b119, ha, pureOp]
theorem titled119 (m : Image) (hs : Small m) (i : Int) {a : Header} (h : getI m.Headers.l i = some a) : callRO vp 520 [.int .i64 i, .func 119 [] [.eptr (chkV m) 0 .brw]] = some (.int .i64 (titledE (nHeaders m) i)) := by
  have hle := m.Headers.le
  exact titled520 119 [.eptr (chkV m) 0 .brw] fn119 rfl rfl (by simp) (nHeaders m) i (by simpa [nHeaders] using hle) (fun t ht => by
    simp only [nHeaders, List.mem_map] at ht
    obtain ⟨x, hx, rfl⟩ := ht
    exact hs.nHeaders x hx) (fun i t h => name119 m i t h) (s := a.Name.s) (by simp [nHeaders, getI_map, h])
def nMetas (m : Image) : List (List UInt8) := m.Metas.l.map fun x => x.Name.s
theorem name123 (m : Image) (i : Int) (x : List UInt8) (h : getI (nMetas m) i = some x) : callRO vp 123 [.int .i64 i, .eptr (chkV m) 0 .brw] = some (.str x) := by
  simp only [nMetas, getI_map, Option.map_eq_some_iff] at h
  obtain ⟨a, ha, rfl⟩ := h
  rw [callRO_K fn123]
  simp -implicitDefEqProofs [f123, b123, ha, pureOp]
theorem titled123 (m : Image) (hs : Small m) (i : Int) {a : Field} (h : getI m.Metas.l i = some a) : callRO vp 520 [.int .i64 i, .func 123 [] [.eptr (chkV m) 0 .brw]] = some (.int .i64 (titledE (nMetas m) i)) := by
  have hle := m.Metas.le
  exact titled520 123 [.eptr (chkV m) 0 .brw] fn123 rfl rfl (by simp) (nMetas m) i (by simpa [nMetas] using hle) (fun t ht => by
    simp only [nMetas, List.mem_map] at ht
    obtain ⟨x, hx, rfl⟩ := ht
    exact hs.nMetas x hx) (fun i t h => name123 m i t h) (s := a.Name.s) (by simp [nMetas, getI_map, h])
def nRegs (m : Image) : List (List UInt8) := m.Regs.l.map fun x => x.Name.s
theorem name136 (m : Image) (i : Int) (x : List UInt8) (h : getI (nRegs m) i = some x) : callRO vp 136 [.int .i64 i, .eptr (chkV m) 0 .brw] = some (.str x) := by
  simp only [nRegs, getI_map, Option.map_eq_some_iff] at h
  obtain ⟨a, ha, rfl⟩ := h
  rw [callRO_K fn136]
  simp -implicitDefEqProofs [f136, b136, ha, pureOp]
theorem titled136 (m : Image) (hs : Small m) (i : Int) {a : Reg} (h : getI m.Regs.l i = some a) : callRO vp 520 [.int .i64 i, .func 136 [] [.eptr (chkV m) 0 .brw]] = some (.int .i64 (titledE (nRegs m) i)) := by
  have hle := m.Regs.le
  exact titled520 136 [.eptr (chkV m) 0 .brw] fn136 rfl rfl (by simp) (nRegs m) i (by simpa [nRegs] using hle) (fun t ht => by
    simp only [nRegs, List.mem_map] at ht
    obtain ⟨x, hx, rfl⟩ := ht
    exact hs.nRegs x hx) (fun i t h => name136 m i t h) (s := a.Name.s) (by simp [nRegs, getI_map, h])
def nCounters (m : Image) : List (List UInt8) := m.Counters.l.map fun x => x.Name.s
theorem name116 (m : Image) (i : Int) (x : List UInt8) (h : getI (nCounters m) i = some x) : callRO vp 116 [.int .i64 i, .eptr (chkV m) 0 .brw] = some (.str x) := by
  simp only [nCounters, getI_map, Option.map_eq_some_iff] at h
  obtain ⟨a, ha, rfl⟩ := h
  rw [callRO_K fn116]
  simp -implicitDefEqProofs [f116, b116, ha, pureOp]
theorem titled116 (m : Image) (hs : Small m) (i : Int) {a : Counter} (h : getI m.Counters.l i = some a) : callRO vp 520 [.int .i64 i, .func 116 [] [.eptr (chkV m) 0 .brw]] = some (.int .i64 (titledE (nCounters m) i)) := by
  have hle := m.Counters.le
  exact titled520 116 [.eptr (chkV m) 0 .brw] fn116 rfl rfl (by simp) (nCounters m) i (by simpa [nCounters] using hle) (fun t ht => by
    simp only [nCounters, List.mem_map] at ht
    obtain ⟨x, hx, rfl⟩ := ht
    exact hs.nCounters x hx) (fun i t h => name116 m i t h) (s := a.Name.s) (by simp [nCounters, getI_map, h])
def nMeters (m : Image) : List (List UInt8) := m.Meters.l.map fun x => x.Name.s
theorem name125 (m : Image) (i : Int) (x : List UInt8) (h : getI (nMeters m) i = some x) : callRO vp 125 [.int .i64 i, .eptr (chkV m) 0 .brw] = some (.str x) := by
  simp only [nMeters, getI_map, Option.map_eq_some_iff] at h
  obtain ⟨a, ha, rfl⟩ := h
  rw [callRO_K fn125]
  simp -implicitDefEqProofs [f125, b125, ha, pureOp]
theorem titled125 (m : Image) (hs : Small m) (i : Int) {a : Meter} (h : getI m.Meters.l i = some a) : callRO vp 520 [.int .i64 i, .func 125 [] [.eptr (chkV m) 0 .brw]] = some (.int .i64 (titledE (nMeters m) i)) := by
  have hle := m.Meters.le
  exact titled520 125 [.eptr (chkV m) 0 .brw] fn125 rfl rfl (by simp) (nMeters m) i (by simpa [nMeters] using hle) (fun t ht => by
    simp only [nMeters, List.mem_map] at ht
    obtain ⟨x, hx, rfl⟩ := ht
    exact hs.nMeters x hx) (fun i t h => name125 m i t h) (s := a.Name.s) (by simp [nMeters, getI_map, h])
def nStates (m : Image) : List (List UInt8) := m.States.l.map fun x => x.Name.s
theorem name138 (m : Image) (i : Int) (x : List UInt8) (h : getI (nStates m) i = some x) : callRO vp 138 [.int .i64 i, .eptr (chkV m) 0 .brw] = some (.str x) := by
  simp only [nStates, getI_map, Option.map_eq_some_iff] at h
  obtain ⟨a, ha, rfl⟩ := h
  rw [callRO_K fn138]
  simp -implicitDefEqProofs [f138, b138, ha, pureOp]
theorem titled138 (m : Image) (hs : Small m) (i : Int) {a : State} (h : getI m.States.l i = some a) : callRO vp 520 [.int .i64 i, .func 138 [] [.eptr (chkV m) 0 .brw]] = some (.int .i64 (titledE (nStates m) i)) := by
  have hle := m.States.le
  exact titled520 138 [.eptr (chkV m) 0 .brw] fn138 rfl rfl (by simp) (nStates m) i (by simpa [nStates] using hle) (fun t ht => by
    simp only [nStates, List.mem_map] at ht
    obtain ⟨x, hx, rfl⟩ := ht
    exact hs.nStates x hx) (fun i t h => name138 m i t h) (s := a.Name.s) (by simp [nStates, getI_map, h])
def nActions (m : Image) : List (List UInt8) := m.Actions.l.map fun x => x.Name.s
theorem name110 (m : Image) (i : Int) (x : List UInt8) (h : getI (nActions m) i = some x) : callRO vp 110 [.int .i64 i, .eptr (chkV m) 0 .brw] = some (.str x) := by
  simp only [nActions, getI_map, Option.map_eq_some_iff] at h
  obtain ⟨a, ha, rfl⟩ := h
  rw [callRO_K fn110]
  simp -implicitDefEqProofs [f110, b110, ha, pureOp]
theorem titled110 (m : Image) (hs : Small m) (i : Int) {a : Action} (h : getI m.Actions.l i = some a) : callRO vp 520 [.int .i64 i, .func 110 [] [.eptr (chkV m) 0 .brw]] = some (.int .i64 (titledE (nActions m) i)) := by
  have hle := m.Actions.le
  exact titled520 110 [.eptr (chkV m) 0 .brw] fn110 rfl rfl (by simp) (nActions m) i (by simpa [nActions] using hle) (fun t ht => by
    simp only [nActions, List.mem_map] at ht
    obtain ⟨x, hx, rfl⟩ := ht
    exact hs.nActions x hx) (fun i t h => name110 m i t h) (s := a.Name.s) (by simp [nActions, getI_map, h])
def nTables (m : Image) : List (List UInt8) := m.Tables.l.map fun x => x.Name.s
theorem name142 (m : Image) (i : Int) (x : List UInt8) (h : getI (nTables m) i = some x) : callRO vp 142 [.int .i64 i, .eptr (chkV m) 0 .brw] = some (.str x) := by
  simp only [nTables, getI_map, Option.map_eq_some_iff] at h
  obtain ⟨a, ha, rfl⟩ := h
  rw [callRO_K fn142]
  simp -implicitDefEqProofs [f142, b142, ha, pureOp]
theorem titled142 (m : Image) (hs : Small m) (i : Int) {a : Table} (h : getI m.Tables.l i = some a) : callRO vp 520 [.int .i64 i, .func 142 [] [.eptr (chkV m) 0 .brw]] = some (.int .i64 (titledE (nTables m) i)) := by
  have hle := m.Tables.le
  exact titled520 142 [.eptr (chkV m) 0 .brw] fn142 rfl rfl (by simp) (nTables m) i (by simpa [nTables] using hle) (fun t ht => by
    simp only [nTables, List.mem_map] at ht
    obtain ⟨x, hx, rfl⟩ := ht
    exact hs.nTables x hx) (fun i t h => name142 m i t h) (s := a.Name.s) (by simp [nTables, getI_map, h])
end Go.VE.Un

/- Contracts: the checks of an image's plain things. -/
namespace Go.VE.Un
open Go.VE
set_option linter.unusedVariables false
set_option linter.unusedSimpArgs false
def headerE (m : Image) (i : Int) : Int := match getI m.Headers.l i with | some h => if mayH h = 0 then titledE (nHeaders m) i else mayH h | none => 0
theorem header118 (m : Image) (hs : Small m) (i : Int) {a : Header} (h : getI m.Headers.l i = some a) : callRO vp 118 [chkV m, .int .i64 i] = some (.int .i64 (headerE m i)) := by
  have hm := may641 a (hs.hf a (by unfold getI at h; split at h; exact List.mem_of_getElem? h; simp at h))
  have ht := titled119 m hs i h
  rw [callRO_K fn118]
  by_cases h0 : mayH a = 0
  · simp -implicitDefEqProofs [f118, b118, h, pureOp, hm, h0, ht, headerE]
  · simp -implicitDefEqProofs [f118, b118, h, pureOp, hm, h0, headerE]
def metaE (m : Image) (i : Int) : Int := match getI m.Metas.l i with | some x => firstE [titledE (nMetas m) i, wantE (inB x.W.n 1 128) 9] | none => 0
theorem meta122 (m : Image) (hs : Small m) (i : Int) {a : Field} (h : getI m.Metas.l i = some a) : callRO vp 122 [chkV m, .int .i64 i] = some (.int .i64 (metaE m i)) := by
  have ht := titled123 m hs i h
  rw [callRO_K fn122]
  simp -implicitDefEqProofs [f122, b122, h, pureOp, ht, metaE, inB]
def regE (m : Image) (i : Int) : Int := match getI m.Regs.l i with | some x => firstE [titledE (nRegs m) i, wantE (inB x.W.n 1 128) 9, logE x.Log.n] | none => 0
theorem reg135 (m : Image) (hs : Small m) (i : Int) {a : Reg} (h : getI m.Regs.l i = some a) : callRO vp 135 [chkV m, .int .i64 i] = some (.int .i64 (regE m i)) := by
  have ht := titled136 m hs i h
  rw [callRO_K fn135]
  simp -implicitDefEqProofs [f135, b135, h, pureOp, ht, regE, inB]
def counterE (m : Image) (i : Int) : Int := match getI m.Counters.l i with | some x => firstE [titledE (nCounters m) i, logE x.Log.n] | none => 0
theorem counter115 (m : Image) (hs : Small m) (i : Int) {a : Counter} (h : getI m.Counters.l i = some a) : callRO vp 115 [chkV m, .int .i64 i] = some (.int .i64 (counterE m i)) := by
  have ht := titled116 m hs i h
  rw [callRO_K fn115]
  simp -implicitDefEqProofs [f115, b115, h, pureOp, ht, counterE]
def meterE (m : Image) (i : Int) : Int := match getI m.Meters.l i with | some x => firstE [titledE (nMeters m) i, logE x.Log.n, wantE (inB x.Rate.n 0 65535 && inB x.Burst.n 1 1048576) 7] | none => 0
theorem meter124 (m : Image) (hs : Small m) (i : Int) {a : Meter} (h : getI m.Meters.l i = some a) : callRO vp 124 [chkV m, .int .i64 i] = some (.int .i64 (meterE m i)) := by
  have ht := titled125 m hs i h
  rw [callRO_K fn124]
  by_cases h1 : (decide (0 ≤ a.Rate.n) && decide (a.Rate.n ≤ 65535)) = true
  · simp -implicitDefEqProofs [f124, b124, h, pureOp, ht, meterE, h1, inB]
  · simp only [Bool.not_eq_true] at h1
    simp -implicitDefEqProofs [f124, b124, h, pureOp, ht, meterE, h1, inB]
/-- Where a state's way goes on. -/
def nextE (m : Image) (n : Int) : Int := wantE (inB n (-2) (m.States.l.length - 1)) 5
theorem next127 (m : Image) (n : Int) : callRO vp 127 [chkV m, .int .i64 n] = some (.int .i64 (nextE m n)) := by
  have hle := m.States.le
  have w : IntKind.i64.wrap (m.States.l.length - 1) = m.States.l.length - 1 := wrap64 (by omega) (by omega)
  rw [callRO_K fn127]
  by_cases h0 : (decide (0 ≤ n) && decide (n ≤ (m.States.l.length : Int) - 1)) = true
  · have : inB n (-2) (m.States.l.length - 1) = true := by simp [inB] at h0 ⊢; omega
    simp -implicitDefEqProofs [f127, b127, pureOp, w, h0, nextE, this]
  · simp only [Bool.not_eq_true] at h0
    by_cases h1 : n = -1
    · have : inB n (-2) (m.States.l.length - 1) = true := by simp [inB]; omega
      have h1' : (n = -1) = True := eq_true h1
      simp -implicitDefEqProofs [f127, b127, pureOp, w, h0, nextE, this, h1']
    · by_cases h2 : n = -2
      · have h2' : (n = -2) = True := eq_true h2
        have h3' : (n = -1) = False := eq_false h1
        have : inB n (-2) (m.States.l.length - 1) = true := by simp [inB]; omega
        simp -implicitDefEqProofs [f127, b127, pureOp, w, h0, nextE, this, h3', h2']
      · have : inB n (-2) (m.States.l.length - 1) = false := by simp [inB] at h0 ⊢; omega
        simp -implicitDefEqProofs [f127, b127, pureOp, w, h0, nextE, this, h1, h2]
/-! ### What is put together again -/
theorem slot_cl {m : Image} (hm : Clo m) (s : Int) : closedB (GL.v 2 Field.v ((slot m s).getD Header.z).Fields) = true := by
  have hz := slot_closed (l := m.Insts.l) (s := s) (cl_headers hm)
  simp only [Header.closed] at hz
  exact hz
theorem loop132 (m : Image) (i : Int) {d : I64} (hd : getI m.Deparse.l i = some d) (b6 : V) (hh : Heap) : ∀ (j : Nat) (k : Int) (tw : Bool), 0 ≤ k → k + j = i → 
    (orc vp).loop 0 [0, 1, 6, 7, 25, 26] L132_0 [(0, chkV m), (1, .int .i64 i), (6, b6), (7, .bool tw), (25, .int .i64 i), (26, .int .i64 k)] hh =
      some (.brk 0, [(0, chkV m), (1, .int .i64 i), (6, b6), (7, .bool (tw || ((m.Deparse.l.drop k.toNat).take j).any fun x => decide (x.n = d.n))), (25, .int .i64 i), (26, .int .i64 i), (27, .bool false)], hh) := by
  have hi : 0 ≤ i ∧ i < m.Deparse.l.length := by
    rcases getI_cases m.Deparse.l i with ⟨a, h0, h1, _⟩ | ⟨_, h1⟩
    · exact ⟨h0, h1⟩
    · rw [h1] at hd; simp at hd
  have hle := m.Deparse.le
  intro j
  induction j with
  | zero =>
    intro k tw hk hkn
    have hlt : ¬ k < i := by omega
    have he : k = i := by omega
    rw [lp132_0]
    simp -implicitDefEqProofs [l132_0, hlt, he]
  | succ j ih =>
    intro k tw hk hkn
    have hlt : k < i := by omega
    have w1 : IntKind.i64.wrap (k + 1) = k + 1 := wrap64 (by omega) (by omega)
    have hk' : k.toNat < m.Deparse.l.length := by omega
    have hg : getI m.Deparse.l k = some m.Deparse.l[k.toNat] := by simp [getI, hk, hk']
    have hdr : m.Deparse.l.drop k.toNat = m.Deparse.l[k.toNat] :: m.Deparse.l.drop (k + 1).toNat := by
      rw [show (k + 1).toNat = k.toNat + 1 by omega]; exact List.drop_eq_getElem_cons hk'
    have hi := fun tw => ih (k + 1) tw (by omega) (by omega)
    rw [lp132_0, hdr, List.take_succ_cons, List.any_cons]
    cases tw with
    | true => simp -implicitDefEqProofs [l132_0, hlt, w1, hg, hd, hi, pureOp]
    | false =>
      by_cases hq : m.Deparse.l[k.toNat].n = d.n
      · have hq' : (m.Deparse.l[k.toNat].n = d.n) = True := eq_true hq
        simp -implicitDefEqProofs [l132_0, hlt, w1, hg, hd, hi, pureOp, hq']
      · simp -implicitDefEqProofs [l132_0, hlt, w1, hg, hd, hi, pureOp, hq]
def outE (m : Image) (i : Int) : Int := match getI m.Deparse.l i with
  | some d => firstE [wantE (slot m d.n).isSome 5, wantE (!(m.Deparse.l.take i.toNat).any fun x => decide (x.n = d.n)) 6]
  | none => 0
theorem out132 (m : Image) (hm : Clo m) (i : Int) {d : I64} (hd : getI m.Deparse.l i = some d) : callRO vp 132 [chkV m, .int .i64 i] = some (.int .i64 (outE m i)) := by
  have hi : 0 ≤ i ∧ i < m.Deparse.l.length := by
    rcases getI_cases m.Deparse.l i with ⟨a, h0, h1, _⟩ | ⟨_, h1⟩
    · exact ⟨h0, h1⟩
    · rw [h1] at hd; simp at hd
  have hsl := slot493 m d.n hm d.hi
  have hz := slot_cl hm d.n
  have hlp := fun b6 hh => loop132 m i hd b6 hh i.toNat 0 false (by omega) (by omega)
  simp only [Int.toNat_zero, List.drop_zero, Bool.false_or] at hlp
  rw [callRO_K fn132]
  simp -implicitDefEqProofs [f132, b132, hd, hm, pureOp, hsl, hdr0, hz, hlp, outE]
/-! ### Extractions -/
/-- Every instance is of a depth that may be. -/
def Deep (m : Image) : Prop := ∀ x ∈ m.Insts.l, 0 ≤ x.Depth.n ∧ x.Depth.n ≤ 4
theorem max_many {d : Int} (h0 : 0 ≤ d) (h1 : d ≤ 4) : (if d < 1 then 1 else d) = many d := by
  unfold many; split <;> split <;> (try split) <;> omega
theorem loop120 (l : GL Inst) (hI : ∀ x ∈ l.l, 0 ≤ x.Depth.n ∧ x.Depth.n ≤ 4) (s : Int) (v0 : V) : ∀ (r : List Inst) (k n : Int), 0 ≤ k → k ≤ l.l.length → l.l.drop k.toNat = r → 0 ≤ n → n ≤ 4 * k →
    ∃ hh, (orc vp).loop 0 [1, 8, 26, 27, 28] L120_0 [(1, .int .i64 s), (8, .int .i64 n), (26, GL.v 3 Inst.v l), (27, .int .i64 l.l.length), (28, .int .i64 k)] [.arr [v0]] =
      (match ofR r k (s - n) with
       | some (i, _, _) => some (.ret, [(4, .int .i64 i), (5, .bool true)], hh)
       | none => some (.brk 0, [(1, .int .i64 s), (8, .int .i64 (n + slotsN r)), (26, GL.v 3 Inst.v l), (27, .int .i64 l.l.length), (28, .int .i64 l.l.length), (29, .bool false)], [.arr [v0]])) := by
  have hle := l.le
  intro r
  induction r with
  | nil =>
    intro k n hk hkl hd h0 h1
    have hlt : ¬ k < l.l.length := by have := drop_nil hk hd; omega
    have he : k = l.l.length := by have := drop_nil hk hd; omega
    refine ⟨[], ?_⟩
    rw [lp120_0]
    simp -implicitDefEqProofs [l120_0, hlt, he, ofR, slotsN]
  | cons x r ih =>
    intro k n hk hkl hd h0 h1
    obtain ⟨hg, hlt, hd'⟩ := drop_cons hk hd
    have hx := hI x (List.mem_of_getElem? (by rw [getI, if_pos hk] at hg; exact hg))
    have hmm := max_many hx.1 hx.2
    have hm := many_bd x.Depth.n
    have w1 : IntKind.i64.wrap (k + 1) = k + 1 := wrap64 (by omega) (by omega)
    have w2 : IntKind.i64.wrap (n + many x.Depth.n) = n + many x.Depth.n := wrap64 (by omega) (by omega)
    have hmx : foldV (fun a b => if b > a then b else a) [.int .i64 x.Depth.n, .int .i64 1] = some (.int .i64 (many x.Depth.n)) := by
      rw [fold_two, ← hmm]
    by_cases h : s < n + many x.Depth.n
    · have h' : s - n < many x.Depth.n := by omega
      refine ⟨[.arr [v0], .arr [x.v]], ?_⟩
      rw [lp120_0]
      simp -implicitDefEqProofs [l120_0, hlt, hg, hmx, w2, h, h', ofR]
    · have h' : ¬ s - n < many x.Depth.n := by omega
      obtain ⟨hh, ih⟩ := ih (k + 1) (n + many x.Depth.n) (by omega) (by omega) hd' (by omega) (by omega)
      rw [← Int.sub_sub] at ih
      refine ⟨hh, ?_⟩
      rw [lp120_0]
      simp -implicitDefEqProofs [l120_0, hlt, hg, hmx, w1, w2, h, h', ofR, slotsN, ih, Int.add_assoc]
def instI (m : Image) (s : Int) : Option (Int × Inst) := (slot m s).bind fun _ => (ofI m.Insts.l s).map fun r => (r.1, r.2.2)
theorem instance120 (m : Image) (hm : Clo m) (hI : Deep m) (s : Int) (hs : s ≤ 9223372036854775807) : callRO vp 120 [chkV m, .int .i64 s] = some (match instI m s with | some (i, _) => .tup [.int .i64 i, .bool true] | none => .tup [.int .i64 0, .bool false]) := by
  have hsl := slot493 m s hm hs
  have hz := slot_cl hm s
  rw [callRO_K fn120]
  cases hv : slot m s with
  | none =>
    rw [hv] at hsl hz
    simp only [Option.getD_none] at hsl hz
    simp -implicitDefEqProofs [f120, b120, hm, pureOp, hsl, hdr0, hz, instI, hv]
  | some h =>
    rw [hv] at hsl hz
    simp only [Option.getD_some] at hsl hz
    obtain ⟨hh, hlp⟩ := loop120 m.Insts hI s h.v m.Insts.l 0 0 (by omega) (by omega) rfl (by omega) (by omega)
    rw [Int.sub_zero] at hlp
    have hs0 : ¬ s < 0 := by
      intro hneg
      unfold slot slotH ofI at hv
      rw [if_pos hneg] at hv; simp at hv
    have ho : ofI m.Insts.l s = ofR m.Insts.l 0 s := by unfold ofI; rw [if_neg hs0]
    cases hr : ofR m.Insts.l 0 s with
    | none =>
      rw [hr] at hlp
      simp -implicitDefEqProofs [f120, b120, hm, pureOp, hsl, hdr0, hz, hlp, instI, hv, ho, hr]
    | some p =>
      obtain ⟨i, j, y⟩ := p
      rw [hr] at hlp
      simp -implicitDefEqProofs [f120, b120, hm, pureOp, hsl, hdr0, hz, hlp, instI, hv, ho, hr]
theorem instI_get {m : Image} {s i : Int} {y : Inst} (h : instI m s = some (i, y)) : getI m.Insts.l i = some y := by
  simp only [instI, Option.bind_eq_some_iff, Option.map_eq_some_iff] at h
  obtain ⟨_, _, r, hr, he⟩ := h
  obtain ⟨a, b, c⟩ := r
  simp only [Prod.mk.injEq] at he
  obtain ⟨rfl, rfl⟩ := he
  unfold ofI at hr
  split at hr
  · simp at hr
  · exact ofR_get (Int.le_refl 0) rfl hr
/-- Why an extraction may not be; 0: it may. -/
def extE (m : Image) (x : Ext) : Int :=
  if x.Kind.n = 0 then wantE (match instI m x.N.n with | some (_, y) => decide (y.Depth.n = 0) | none => false) 5
  else if x.Kind.n = 1 then wantE (stacked m x.N.n).isSome 5
  else if x.Kind.n = 2 then wantE (inB x.N.n 1 64) 7 else 10
theorem ext117 (m : Image) (hm : Clo m) (hI : Deep m) (x : Ext) : callRO vp 117 [chkV m, x.v] = some (.int .i64 (extE m x)) := by
  have hin := instance120 m hm hI x.N.n x.N.hi
  rw [callRO_K fn117]
  by_cases h0 : x.Kind.n = 0
  · cases hi : instI m x.N.n with
    | none =>
      rw [hi] at hin
      simp -implicitDefEqProofs [f117, b117, h0, hin, hi, extE]
    | some p =>
      obtain ⟨i, y⟩ := p
      rw [hi] at hin
      have hg := instI_get hi
      simp -implicitDefEqProofs [f117, b117, h0, hin, hi, hg, extE, pureOp]
  · by_cases h1 : x.Kind.n = 1
    · have hst := stacked494 m x.N.n
      cases hs : stacked m x.N.n with
      | none =>
        rw [hs] at hst
        simp -implicitDefEqProofs [f117, b117, h1, hst, hs, extE, pureOp]
      | some p =>
        obtain ⟨a, d⟩ := p
        rw [hs] at hst
        simp -implicitDefEqProofs [f117, b117, h1, hst, hs, extE, pureOp]
    · by_cases h2 : x.Kind.n = 2
      · simp -implicitDefEqProofs [f117, b117, h2, extE, inB]
      · simp -implicitDefEqProofs [f117, b117, h0, h1, h2, extE]
end Go.VE.Un

/- Contracts: the checks of keys, cases and states. -/
namespace Go.VE.Un
open Go.VE
set_option linter.unusedVariables false
set_option linter.unusedSimpArgs false
theorem nilchk_m (m : Image) (fr : Fr) (x : VOpd) (e : opd fr x = chkV m) : pureOp fr (.nilchk x) = some (chkV m) := by simp only [pureOp, e]
/-- The first error of a row's things. -/
def firstF {α : Type} (f : α → Int) : List α → Int
  | [] => 0
  | x :: r => if f x = 0 then firstF f r else f x
/-- Why a key's part may not be; 0: it may. -/
def keyK (m : Image) (looks : Bool) (k : Key) : Int :=
  if inB k.Kind.n 0 2 = false then 10 else if k.Kind.n = 2 ∧ looks = false then 10
  else if (partW m k).isSome = false then (if k.Kind.n = 2 then 7 else 5)
  else if k.Kind.n = 1 ∧ k.B.n ≠ 0 then 7 else 0
theorem loop121 (m : Image) (hm : Clo m) (looks : Bool) (l : GL Key) : ∀ (r : List Key) (k : Int), 0 ≤ k → k ≤ l.l.length → l.l.drop k.toNat = r → ∃ hh,
    (orc vp).loop 0 [0, 1, 2, 16, 17, 18] L121_0 [(0, chkV m), (1, GL.v 3 Key.v l), (2, .bool looks), (16, GL.v 3 Key.v l), (17, .int .i64 l.l.length), (18, .int .i64 k)] [] =
      (if firstF (keyK m looks) r = 0 then some (.brk 0, [(0, chkV m), (1, GL.v 3 Key.v l), (2, .bool looks), (16, GL.v 3 Key.v l), (17, .int .i64 l.l.length), (18, .int .i64 l.l.length), (19, .bool false)], [])
       else some (.ret, [(6, .int .i64 (firstF (keyK m looks) r))], hh)) := by
  have hle := l.le
  intro r
  induction r with
  | nil =>
    intro k hk hkl hd
    have hlt : ¬ k < l.l.length := by have := drop_nil hk hd; omega
    have he : k = l.l.length := by have := drop_nil hk hd; omega
    refine ⟨[], ?_⟩
    rw [lp121_0]
    simp -implicitDefEqProofs [l121_0, hlt, he, firstF]
  | cons x r ih =>
    intro k hk hkl hd
    obtain ⟨hg, hlt, hd'⟩ := drop_cons hk hd
    have w1 : IntKind.i64.wrap (k + 1) = k + 1 := wrap64 (by omega) (by omega)
    obtain ⟨hh, ih⟩ := ih (k + 1) (by omega) (by omega) hd'
    by_cases c1 : (decide (0 ≤ x.Kind.n) && decide (x.Kind.n ≤ 2)) = true
    · have cc : x.Kind.n = 0 ∨ x.Kind.n = 1 ∨ x.Kind.n = 2 := by simp at c1; omega
      have hp := part510 m x hm
      cases hw : (partW m x).isSome with
      | false =>
        rw [hw] at hp
        refine ⟨[.arr [x.v]], ?_⟩
        rw [lp121_0]
        rcases cc with c | c | c
        · simp -implicitDefEqProofs [l121_0, hlt, hg, hp, hw, c1, c, keyK, firstF, inB, nilchk_m m]
        · simp -implicitDefEqProofs [l121_0, hlt, hg, hp, hw, c1, c, keyK, firstF, inB, nilchk_m m]
        · cases looks <;> simp -implicitDefEqProofs [l121_0, hlt, hg, hp, hw, c1, c, keyK, firstF, inB, nilchk_m m]
      | true =>
        rw [hw] at hp
        rcases cc with c | c | c
        · refine ⟨hh, ?_⟩
          rw [lp121_0]
          simp -implicitDefEqProofs [l121_0, hlt, hg, hp, hw, c1, c, keyK, firstF, inB, nilchk_m m, w1, ih]
        · by_cases hb : x.B.n = 0
          · refine ⟨hh, ?_⟩
            rw [lp121_0]
            simp -implicitDefEqProofs [l121_0, hlt, hg, hp, hw, c1, c, hb, keyK, firstF, inB, nilchk_m m, w1, ih]
          · refine ⟨[.arr [x.v]], ?_⟩
            rw [lp121_0]
            simp -implicitDefEqProofs [l121_0, hlt, hg, hp, hw, c1, c, hb, keyK, firstF, inB, nilchk_m m]
        · cases looks with
          | false =>
            refine ⟨[.arr [x.v]], ?_⟩
            rw [lp121_0]
            simp -implicitDefEqProofs [l121_0, hlt, hg, hp, hw, c1, c, keyK, firstF, inB, nilchk_m m]
          | true =>
            refine ⟨hh, ?_⟩
            rw [lp121_0]
            simp -implicitDefEqProofs [l121_0, hlt, hg, hp, hw, c1, c, keyK, firstF, inB, nilchk_m m, w1, ih]
    · have hp := part510 m x hm
      simp only [Bool.not_eq_true] at c1
      refine ⟨[.arr [x.v]], ?_⟩
      rw [lp121_0]
      simp -implicitDefEqProofs [l121_0, hlt, hg, hp, c1, keyK, firstF, inB, nilchk_m m]
/-- Why a key may not be; 0: it may. -/
def keyE (m : Image) (l : List Key) (looks : Bool) : Int :=
  if 4 < l.length then 2 else if firstF (keyK m looks) l = 0 then wantE (keyW m l 0).isSome 9 else firstF (keyK m looks) l
theorem key121 (m : Image) (hm : Clo m) (l : GL Key) (looks : Bool) : callRO vp 121 [chkV m, GL.v 3 Key.v l, .bool looks] = some (.int .i64 (keyE m l.l looks)) := by
  have hle := l.le
  obtain ⟨hh, h⟩ := loop121 m hm looks l l.l 0 (by omega) (by omega) rfl
  have hk := key490 m l hm
  rw [callRO_K fn121]
  by_cases h4 : 4 < l.l.length
  · have h4' : (4 : Int) < l.l.length := by omega
    simp -implicitDefEqProofs [f121, b121, h4, h4', keyE]
  · have h4' : ¬ (4 : Int) < l.l.length := by omega
    by_cases h0 : firstF (keyK m looks) l.l = 0
    · rw [if_pos h0] at h
      simp -implicitDefEqProofs [f121, b121, h4, h4', h, h0, keyE, hk, nilchk_m m]
    · rw [if_neg h0] at h
      simp -implicitDefEqProofs [f121, b121, h4, h4', h, h0, keyE]
/-- Why a case of a state may not be; 0: it may. -/
def oneE (m : Image) (x : Case) (w : Int) : Int :=
  if x.Value.good = true ∧ x.Mask.good = true ∧ x.Value.W.n = w ∧ x.Mask.W.n = w then
    firstE [wantE ((andV x.Value x.Mask).1.same x.Value) 14, nextE m x.Next.n] else 9
theorem one131 (m : Image) (x : Case) (w : Int) : callRO vp 131 [chkV m, x.v, .int .i64 w] = some (.int .i64 (oneE m x w)) := by
  have hn := next127 m x.Next.n
  rw [callRO_K fn131]
  by_cases h1 : x.Value.good = true
  · by_cases h2 : x.Mask.good = true
    · by_cases h3 : x.Value.W.n = w
      · by_cases h4 : x.Mask.W.n = w
        · have h3' : (x.Value.W.n = w) = True := eq_true h3
          have h4' : (x.Mask.W.n = w) = True := eq_true h4
          simp -implicitDefEqProofs [f131, b131, h1, h2, h3', h4', oneE, hn, pureOp]
        · simp -implicitDefEqProofs [f131, b131, h1, h2, h3, h4, oneE]
      · simp -implicitDefEqProofs [f131, b131, h1, h2, h3, oneE]
    · simp -implicitDefEqProofs [f131, b131, h1, h2, oneE]
  · simp -implicitDefEqProofs [f131, b131, h1, oneE]
/-- Why a state may not be; 0: it may. -/
def stA (m : Image) (i : Int) (s : State) : Int := firstE [titledE (nStates m) i, wantE (decide ((s.Exts.l.length : Int) ≤ 4)) 2]
def stB (m : Image) (s : State) (t : Bool) : Int := firstE [keyE m s.Keys.l true, wantE (decide ((s.Cases.l.length : Int) ≤ 8)) 2, wantE t 4]
def stT (s : State) : Bool := if s.Cases.l.length = 0 then true else decide (0 < s.Keys.l.length)
def stO (m : Image) (s : State) : Int := firstF (fun x => oneE m x ((keyW m s.Keys.l 0).getD 0)) s.Cases.l
def stE (m : Image) (i : Int) (s : State) (t : Bool) : Int :=
  if stA m i s = 0 then (if firstF (extE m) s.Exts.l = 0 then (if stB m s t = 0 then (if stO m s = 0 then nextE m s.Next.n else stO m s) else stB m s t) else firstF (extE m) s.Exts.l) else stA m i s
def stateE (m : Image) (i : Int) : Int := match getI m.States.l i with | none => 0 | some s => stE m i s (stT s)
theorem loop137_1 (m : Image) (hm : Clo m) (hI : Deep m) (s : State) (l : GL Ext) : ∀ (r : List Ext) (k : Int), 0 ≤ k → k ≤ l.l.length → l.l.drop k.toNat = r → ∃ hh,
    (orc vp).loop 0 [2, 5, 38, 39, 40] L137_1 [(2, .ptr 0 1 0 0), (5, .ptr 1 1 0 0), (38, GL.v 2 Ext.v l), (39, .int .i64 l.l.length), (40, .int .i64 k)] [.arr [chkV m], .arr [s.v]] =
      (if firstF (extE m) r = 0 then some (.brk 0, [(2, .ptr 0 1 0 0), (5, .ptr 1 1 0 0), (38, GL.v 2 Ext.v l), (39, .int .i64 l.l.length), (40, .int .i64 l.l.length), (41, .bool false)], [.arr [chkV m], .arr [s.v]])
       else some (.ret, [(4, .int .i64 (firstF (extE m) r))], hh)) := by
  have hle := l.le
  intro r
  induction r with
  | nil =>
    intro k hk hkl hd
    have hlt : ¬ k < l.l.length := by have := drop_nil hk hd; omega
    have he : k = l.l.length := by have := drop_nil hk hd; omega
    refine ⟨[], ?_⟩
    rw [lp137_1]
    simp -implicitDefEqProofs [l137_1, hlt, he, firstF]
  | cons x r ih =>
    intro k hk hkl hd
    obtain ⟨hg, hlt, hd'⟩ := drop_cons hk hd
    have w1 : IntKind.i64.wrap (k + 1) = k + 1 := wrap64 (by omega) (by omega)
    obtain ⟨hh, ih⟩ := ih (k + 1) (by omega) (by omega) hd'
    have he := ext117 m hm hI x
    by_cases h0 : extE m x = 0
    · refine ⟨hh, ?_⟩
      rw [lp137_1]
      simp -implicitDefEqProofs [l137_1, hlt, hg, he, h0, firstF, w1, ih]
    · refine ⟨[.arr [chkV m], .arr [s.v], .arr [x.v]], ?_⟩
      rw [lp137_1]
      simp -implicitDefEqProofs [l137_1, hlt, hg, he, h0, firstF]
theorem loop137_0 (m : Image) (w : Int) (s : State) (l : GL Case) : ∀ (r : List Case) (k : Int), 0 ≤ k → k ≤ l.l.length → l.l.drop k.toNat = r → ∃ hh,
    (orc vp).loop 0 [2, 5, 11, 87, 88, 89] L137_0 [(2, .ptr 0 1 0 0), (5, .ptr 1 1 0 0), (11, .int .i64 w), (87, GL.v 7 Case.v l), (88, .int .i64 l.l.length), (89, .int .i64 k)] [.arr [chkV m], .arr [s.v]] =
      (if firstF (fun x => oneE m x w) r = 0 then some (.brk 2, [(2, .ptr 0 1 0 0), (5, .ptr 1 1 0 0), (11, .int .i64 w), (87, GL.v 7 Case.v l), (88, .int .i64 l.l.length), (89, .int .i64 l.l.length), (90, .bool false)], [.arr [chkV m], .arr [s.v]])
       else some (.ret, [(4, .int .i64 (firstF (fun x => oneE m x w) r))], hh)) := by
  have hle := l.le
  intro r
  induction r with
  | nil =>
    intro k hk hkl hd
    have hlt : ¬ k < l.l.length := by have := drop_nil hk hd; omega
    have he : k = l.l.length := by have := drop_nil hk hd; omega
    refine ⟨[], ?_⟩
    rw [lp137_0]
    simp -implicitDefEqProofs [l137_0, hlt, he, firstF]
  | cons x r ih =>
    intro k hk hkl hd
    obtain ⟨hg, hlt, hd'⟩ := drop_cons hk hd
    have w1 : IntKind.i64.wrap (k + 1) = k + 1 := wrap64 (by omega) (by omega)
    obtain ⟨hh, ih⟩ := ih (k + 1) (by omega) (by omega) hd'
    have he := one131 m x w
    by_cases h0 : oneE m x w = 0
    · refine ⟨hh, ?_⟩
      rw [lp137_0]
      simp -implicitDefEqProofs [l137_0, hlt, hg, he, h0, firstF, w1, ih]
    · refine ⟨[.arr [chkV m], .arr [s.v], .arr [x.v]], ?_⟩
      rw [lp137_0]
      simp -implicitDefEqProofs [l137_0, hlt, hg, he, h0, firstF]
theorem cl_states {m : Image} (hm : Clo m) : closedB (GL.v 5 State.v m.States) = true := by
  simp only [Clo, Image.closed, Bool.and_eq_true] at hm; simp [hm]
set_option maxHeartbeats 4000000 in
set_option maxRecDepth 100000 in
theorem state137 (m : Image) (hm : Clo m) (hI : Deep m) (hs : Small m) (i : Int) {s : State} (h : getI m.States.l i = some s) : callRO vp 137 [chkV m, .int .i64 i] = some (.int .i64 (stateE m i)) := by
  have hc := closed_get (cl_states hm) h
  simp only [State.closed, Bool.and_eq_true] at hc
  have ht := titled138 m hs i h
  have hk := key121 m hm s.Keys true
  have hw := key490 m s.Keys hm
  have hn := next127 m s.Next.n
  obtain ⟨h1, l1⟩ := loop137_1 m hm hI s s.Exts s.Exts.l 0 (by omega) (by omega) rfl
  obtain ⟨h2, l2⟩ := loop137_0 m ((keyW m s.Keys.l 0).getD 0) s s.Cases s.Cases.l 0 (by omega) (by omega) rfl
  have hr : stateE m i = stE m i s (stT s) := by simp only [stateE, h]
  rw [callRO_K fn137, hr]
  by_cases c1 : stA m i s = 0
  · by_cases c2 : firstF (extE m) s.Exts.l = 0
    · rw [if_pos c2] at l1
      have ho : stO m s = firstF (fun x => oneE m x ((keyW m s.Keys.l 0).getD 0)) s.Cases.l := rfl
      rw [← ho] at l2
      unfold stA at c1
      by_cases z1 : s.Cases.l = []
      · have z2 : stT s = true := by unfold stT; rw [if_pos (by rw [z1]; rfl)]
        have z1' : (s.Cases.l = []) = True := eq_true z1
        rw [z2]
        by_cases c3 : stB m s true = 0
        · unfold stB at c3
          by_cases c4 : stO m s = 0
          · rw [if_pos c4] at l2
            simp -implicitDefEqProofs [f137, b137, h, hc, pureOp, ht, l1, hk, hw, hn, l2, stE, stA, stB, c1, c2, c3, c4, z1']
          · rw [if_neg c4] at l2
            simp -implicitDefEqProofs [f137, b137, h, hc, pureOp, ht, l1, hk, hw, hn, l2, stE, stA, stB, c1, c2, c3, c4, z1']
        · unfold stB at c3
          simp -implicitDefEqProofs [f137, b137, h, hc, pureOp, ht, l1, hk, hw, hn, stE, stA, stB, c1, c2, c3, z1']
      · have z1' : (s.Cases.l = []) = False := eq_false z1
        have z0 : ¬ s.Cases.l.length = 0 := by simpa using z1
        by_cases zk : 0 < s.Keys.l.length
        · have z2 : stT s = true := by unfold stT; rw [if_neg z0]; simpa using zk
          have zk1 : (0 < s.Keys.l.length) = True := eq_true zk
          have zk2 : ((0 : Int) < s.Keys.l.length) = True := eq_true (by omega)
          rw [z2]
          by_cases c3 : stB m s true = 0
          · unfold stB at c3
            by_cases c4 : stO m s = 0
            · rw [if_pos c4] at l2
              simp -implicitDefEqProofs [f137, b137, h, hc, pureOp, ht, l1, hk, hw, hn, l2, stE, stA, stB, c1, c2, c3, c4, z1', zk1, zk2]
            · rw [if_neg c4] at l2
              simp -implicitDefEqProofs [f137, b137, h, hc, pureOp, ht, l1, hk, hw, hn, l2, stE, stA, stB, c1, c2, c3, c4, z1', zk1, zk2]
          · unfold stB at c3
            simp -implicitDefEqProofs [f137, b137, h, hc, pureOp, ht, l1, hk, hw, hn, stE, stA, stB, c1, c2, c3, z1', zk1, zk2]
        · have z2 : stT s = false := by unfold stT; rw [if_neg z0]; simpa using zk
          have zk1 : (0 < s.Keys.l.length) = False := eq_false zk
          have zk2 : ((0 : Int) < s.Keys.l.length) = False := eq_false (by omega)
          rw [z2]
          by_cases c3 : stB m s false = 0
          · unfold stB at c3
            by_cases c4 : stO m s = 0
            · rw [if_pos c4] at l2
              simp -implicitDefEqProofs [f137, b137, h, hc, pureOp, ht, l1, hk, hw, hn, l2, stE, stA, stB, c1, c2, c3, c4, z1', zk1, zk2]
            · rw [if_neg c4] at l2
              simp -implicitDefEqProofs [f137, b137, h, hc, pureOp, ht, l1, hk, hw, hn, l2, stE, stA, stB, c1, c2, c3, c4, z1', zk1, zk2]
          · unfold stB at c3
            simp -implicitDefEqProofs [f137, b137, h, hc, pureOp, ht, l1, hk, hw, hn, stE, stA, stB, c1, c2, c3, z1', zk1, zk2]
    · rw [if_neg c2] at l1
      unfold stA at c1
      simp -implicitDefEqProofs [f137, b137, h, hc, pureOp, ht, l1, stE, stA, c1, c2]
  · unfold stA at c1
    simp -implicitDefEqProofs [f137, b137, h, hc, pureOp, ht, stE, stA, c1]
end Go.VE.Un

/- Contracts: the checks of code. -/
namespace Go.VE.Un
open Go.VE
set_option linter.unusedVariables false
set_option linter.unusedSimpArgs false
def insA (x : Ins) : V := .agg [.int .i64 x.Op.n, .int .i64 x.A.n]
/-- Is a cell there? -/
def cellB (m : Image) (x : Ins) (p : Int) : Bool :=
  if x.Op.n = 2 ∨ x.Op.n = 23 then (metaW m x.A.n).isSome else if x.Op.n = 3 then decide (x.A.n < p)
  else if x.Op.n = 5 ∨ x.Op.n = 24 then decide (x.A.n < (m.Regs.l.length : Int)) else if x.Op.n = 29 then decide (x.A.n < (m.Counters.l.length : Int)) else decide (x.A.n < (m.Meters.l.length : Int))
theorem nilchk_c (m : Image) (fr : Fr) (x : VOpd) (e : opd fr x = chkV m) : pureOp fr (.nilchk x) = some (chkV m) := by simp only [pureOp, e]
theorem cell113 (m : Image) (x : Ins) (p : Int) (h : x.Op.n = 2 ∨ x.Op.n = 23 ∨ x.Op.n = 3 ∨ x.Op.n = 5 ∨ x.Op.n = 24 ∨ x.Op.n = 29 ∨ x.Op.n = 30) :
    callRO vp 113 [chkV m, .agg [.int .i64 x.Op.n, .int .i64 x.A.n], .int .i64 p] = some (.bool (cellB m x p)) := by
  have hm := meta491 m x.A.n x.A.lo x.A.hi
  rw [callRO_K fn113]
  rcases h with h | h | h | h | h | h | h <;> simp -implicitDefEqProofs [f113, b113, h, hm, nilchk_c m, cellB]
/-- Is what an instruction speaks of there? -/
def refersB (m : Image) (x : Ins) (p : Int) : Bool :=
  match (getI kinds x.Op.n).getD 0 with
  | 281 => (field m x.A.n x.B.n).isSome
  | 283 => (slot m x.A.n).isSome
  | 276 => (slot m x.A.n).isSome
  | 277 => (stacked m x.A.n).isSome
  | 275 => cellB m x p
  | _ => true
set_option maxHeartbeats 4000000 in
theorem refers134 (m : Image) (hm : Clo m) (x : Ins) (h : mayC x = 0) (ps : GL I64) : callRO vp 134 [chkV m, stepV x, GL.v 1 I64.v ps] = some (.bool (refersB m x ps.l.length)) := by
  obtain ⟨h0, h1⟩ := mayC_op h
  have hf := field489 m x.A.n x.B.n hm x.A.hi
  have hsl := slot493 m x.A.n hm x.A.hi
  have hz := slot_cl hm x.A.n
  have hst : ∃ a b, callRO vp 494 [m.v, .int .i64 x.A.n] = some (.tup [.int .i64 a, .int .i64 b, .bool (stacked m x.A.n).isSome]) := by
    have := stacked494 m x.A.n
    cases hs : stacked m x.A.n with
    | none => rw [hs] at this; exact ⟨0, 0, this⟩
    | some q => obtain ⟨a, b⟩ := q; rw [hs] at this; exact ⟨a, b, this⟩
  obtain ⟨sa, sb, hst⟩ := hst
  have hc : (x.Op.n = 2 ∨ x.Op.n = 23 ∨ x.Op.n = 3 ∨ x.Op.n = 5 ∨ x.Op.n = 24 ∨ x.Op.n = 29 ∨ x.Op.n = 30) → callRO vp 113 [chkV m, .agg [.int .i64 x.Op.n, .int .i64 x.A.n], .int .i64 ps.l.length] = some (.bool (cellB m x ps.l.length)) := cell113 m x ps.l.length
  rw [callRO_K fn134]
  generalize he : x.Op.n = o at h0 h1
  rcases ops_cases h0 h1 with rfl | rfl | rfl | rfl | rfl | rfl | rfl | rfl | rfl | rfl | rfl | rfl | rfl | rfl | rfl | rfl | rfl | rfl | rfl | rfl | rfl | rfl | rfl | rfl | rfl | rfl | rfl | rfl | rfl | rfl | rfl | rfl | rfl | rfl | rfl
  all_goals
    rw [he] at hc
    simp -implicitDefEqProofs at hc
    simp -implicitDefEqProofs [f134, b134, he, stepV, getI, kinds, refersB, hf, hsl, hz, hst, hc, hdr0, nilchk_c m]
/-- Why an instruction at a place may not be; 0: it may. -/
def stepE (m : Image) (p n i : Int) (x : Ins) : Int :=
  if refersB m x p = false then 5 else match targetB x with | some to => wantE (inB to (i + 1) n) 12 | none => 0
def stepsE (m : Image) (p n : Int) : List Ins → Int → Int
  | [], _ => 0
  | x :: r, i => if stepE m p n i x = 0 then stepsE m p n r (i + 1) else stepE m p n i x
/-- Why code may not be; 0: it may. -/
def codeF (m : Image) (l : List Ins) (p : Int) : Int := match allC l with | some (_, e) => e | none => stepsE m p l.length l 0
theorem codeE_none : ∀ (l : List Ins) (i : Int), codeE l i = none → ∀ x ∈ l, mayC x = 0
  | [], _, _, x, hx => by simp at hx
  | y :: r, i, h, x, hx => by
    simp only [codeE] at h
    split at h
    · rename_i h0
      rcases List.mem_cons.1 hx with rfl | hx
      · exact h0
      · exact codeE_none r _ h x hx
    · simp at h
theorem codeE_some : ∀ (l : List Ins) (i : Int) {j e : Int}, codeE l i = some (j, e) → e ≠ 0
  | [], _, _, _, h => by simp [codeE] at h
  | y :: r, i, j, e, h => by
    simp only [codeE] at h
    split at h
    · exact codeE_some r _ h
    · rename_i h0; simp only [Option.some.injEq, Prod.mk.injEq] at h; rw [← h.2]; exact h0
theorem allC_none {l : List Ins} (h : allC l = none) : l.length ≤ 64 ∧ ∀ x ∈ l, mayC x = 0 := by
  unfold allC at h
  split at h
  · simp at h
  · rename_i hc
    split at h
    · simp at h
    · rename_i hl
      have : l.length ≤ 64 := by omega
      rw [List.take_of_length_le this] at hc
      exact ⟨this, codeE_none l 0 hc⟩
theorem allC_some {l : List Ins} {i e : Int} (h : allC l = some (i, e)) : e ≠ 0 := by
  unfold allC at h
  split at h
  · rename_i r hc; obtain ⟨a, b⟩ := r; simp only [Option.some.injEq, Prod.mk.injEq] at h; rw [← h.2]; exact codeE_some _ _ hc
  · split at h
    · simp only [Option.some.injEq, Prod.mk.injEq] at h; omega
    · simp at h
@[simp] theorem step_ld (x : Ins) : ldc (stepV x) false 1 0 = some (stepV x) := by
  unfold stepV; split <;> rfl
theorem loop114 (m : Image) (hm : Clo m) (l : GL Ins) (ps : GL I64) (hl : ∀ x ∈ l.l, mayC x = 0) : ∀ (r : List Ins) (k : Int), 0 ≤ k → k ≤ l.l.length → l.l.drop k.toNat = r → 
    (orc vp).loop 0 [0, 1, 2, 23, 24, 25] L114_0 [(0, chkV m), (1, GL.v 6 Ins.v l), (2, GL.v 1 I64.v ps), (23, .sl 1 (l.l.map stepV) .perm), (24, .int .i64 l.l.length), (25, .int .i64 k)] [] =
      (if stepsE m ps.l.length l.l.length r k = 0 then some (.brk 0, [(0, chkV m), (1, GL.v 6 Ins.v l), (2, GL.v 1 I64.v ps), (23, .sl 1 (l.l.map stepV) .perm), (24, .int .i64 l.l.length), (25, .int .i64 l.l.length), (26, .bool false)], [])
       else some (.ret, [(6, .int .i64 (stepsE m ps.l.length l.l.length r k))], [])) := by
  have hle := l.le
  intro r
  induction r with
  | nil =>
    intro k hk hkl hd
    have hlt : ¬ k < l.l.length := by have := drop_nil hk hd; omega
    have he : k = l.l.length := by have := drop_nil hk hd; omega
    rw [lp114_0]
    simp -implicitDefEqProofs [l114_0, hlt, he, stepsE]
  | cons x r ih =>
    intro k hk hkl hd
    obtain ⟨hg, hlt, hd'⟩ := drop_cons hk hd
    have w1 : IntKind.i64.wrap (k + 1) = k + 1 := wrap64 (by omega) (by omega)
    have ih := ih (k + 1) (by omega) (by omega) hd'
    have h0 := hl x (List.mem_of_getElem? (by rw [getI, if_pos hk] at hg; exact hg))
    have hr := refers134 m hm x h0 ps
    have ht := target427 x h0
    rw [lp114_0]
    by_cases c1 : refersB m x ps.l.length = true
    · cases c2 : targetB x with
      | none =>
        rw [c2] at ht
        simp -implicitDefEqProofs [l114_0, hlt, hg, hr, ht, c1, c2, w1, ih, stepsE, stepE]
      | some to =>
        rw [c2] at ht
        by_cases c3 : (decide (k + 1 ≤ to) && decide (to ≤ (l.l.length : Int))) = true
        · simp -implicitDefEqProofs [l114_0, hlt, hg, hr, ht, c1, c2, c3, w1, ih, stepsE, stepE, wantE, inB]
        · simp only [Bool.not_eq_true] at c3
          simp -implicitDefEqProofs [l114_0, hlt, hg, hr, ht, c1, c2, c3, w1, stepsE, stepE, wantE, inB]
    · simp only [Bool.not_eq_true] at c1
      simp -implicitDefEqProofs [l114_0, hlt, hg, hr, c1, stepsE, stepE]
theorem code114 (m : Image) (hm : Clo m) (l : GL Ins) (ps : GL I64) : callRO vp 114 [chkV m, GL.v 6 Ins.v l, GL.v 1 I64.v ps] = some (.int .i64 (codeF m l.l ps.l.length)) := by
  have ha := all422 l
  rw [callRO_K fn114]
  cases hc : allC l.l with
  | some p =>
    obtain ⟨i, e⟩ := p
    have he := allC_some hc
    rw [hc] at ha
    simp -implicitDefEqProofs [f114, b114, ha, he, codeF, hc]
  | none =>
    rw [hc] at ha
    obtain ⟨_, h2⟩ := allC_none hc
    have hlp := loop114 m hm l ps h2 l.l 0 (by omega) (by omega) rfl
    by_cases c : stepsE m ps.l.length l.l.length l.l 0 = 0
    · rw [if_pos c] at hlp
      simp -implicitDefEqProofs [f114, b114, ha, hlp, codeF, hc, c]
    · rw [if_neg c] at hlp
      simp -implicitDefEqProofs [f114, b114, ha, hlp, codeF, hc, c]
end Go.VE.Un

