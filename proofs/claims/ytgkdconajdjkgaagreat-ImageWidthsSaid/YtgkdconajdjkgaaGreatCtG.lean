/- ImageWidths: Field, Meta, Key, Slot and Stacked of any image are those of the reference. -/
import Derived.Test.YtgkdconajdjkgaaGreatCtF
namespace Go.VE.Un
open Go.VE
set_option linter.unusedVariables false
set_option linter.unusedSimpArgs false

theorem light_insts {m : Image} (h : lightB m = true) : m.Insts.l.length ≤ 900 := by
  simp only [lightB, Bool.and_eq_true, decide_eq_true_eq] at h
  have := h.1.2
  unfold sizeN at this
  omega
set_option maxRecDepth 100000 in
theorem imageWidths (m : Image) (hm : Clo m) (hh : Held m) (a b : I64) (l : GL Key) (hlv : callRO vp 659 [] = some (.bool true)) :
    callRO vp 656 [m.v, .agg [.int .i64 a.n, .int .i64 b.n], GL.v 3 Key.v l] = some (.bool true) := by
  rw [callRO_K fn656]
  cases hl : lightB m
  · simp -implicitDefEqProofs [f656, b656, hh, hl, hlv]
  · by_cases h30 : l.l.length ≤ 30
    · have h31 : ¬ (30 : Int) < l.l.length := by omega
      have hi := light_insts hl
      have hi' : m.Insts.l.length ≤ 10000000 := by omega
      have ha := a.hi
      have hb := a.lo
      have hz := slot_closed (l := m.Insts.l) (s := a.n) (cl_headers hm)
      simp only [Header.closed] at hz
      have hz2 : closedB (GL.v 2 Field.v ((slot m a.n).getD Header.z).Fields) = true := hz
      rcases hs : stacked m b.n with _ | ⟨p, q⟩
      · simp -implicitDefEqProofs [f656, b656, hh, hl, hlv, h31, hm, hi', ha, hb, hs, hz2, hdr0]
      · simp -implicitDefEqProofs [f656, b656, hh, hl, hlv, h31, hm, hi', ha, hb, hs, hz2, hdr0]
    · have h31 : (30 : Int) < l.l.length := by omega
      simp -implicitDefEqProofs [f656, b656, hh, hl, hlv, h31]
end Go.VE.Un
