/- Joined texts: CrD, CrE, CrF. No condition: what each theorem needs stands in it. -/
import Derived.Test.YtgkdconajdjkgaaGreatCc3
namespace Go.VE.Un
open Go.VE
set_option linter.unusedVariables false
set_option linter.unusedSimpArgs false
def iv (n : Int) : V := .int .i64 n
@[simp] theorem iv_below (k : Nat) (n : Int) : belowB k (iv n) = true := nr rfl
@[simp] theorem iv_closed (n : Int) : closedB (iv n) = true := nr rfl
@[simp] theorem ivs_closed (l : List Int) : closedL (l.map iv) = true := by rw [closedL_map]; simp
@[simp] theorem ivs_below (k : Nat) (l : List Int) : belowL k (l.map iv) = true := belowL_map (fun _ => rfl) l
theorem letter_cls (c : Int) : letterB c = true ↔ (65 ≤ c ∧ c ≤ 90 ∨ 97 ≤ c ∧ c ≤ 122 ∨ c = 95) ∨ ¬ (c = 215 ∨ c = 247 ∨ c = 930) ∧ (192 ≤ c ∧ c ≤ 591 ∨ 913 ≤ c ∧ c ≤ 969 ∨ 1024 ≤ c ∧ c ≤ 1279) := by
 unfold letterB
 simp only [Bool.and_eq_true,Bool.or_eq_true,Bool.not_eq_true',Bool.or_eq_false_iff,decide_eq_true_eq,decide_eq_false_iff_not]
 omega
theorem letter804 (c : Int) : callRO vp 804 [.int .i64 c] = some (.bool (letterB c)) := by
 have hl := letter_cls c
 rw [callRO_K fn804]
 have hs : (c < 65) ∨ (65 ≤ c ∧ c ≤ 90) ∨ (90 < c ∧ c < 97 ∧ c ≠ 95) ∨ (c = 95) ∨ (97 ≤ c ∧ c ≤ 122) ∨ (122 < c ∧ c < 192) ∨ (c = 215) ∨ (c = 247) ∨ (c = 930) ∨ (192 ≤ c ∧ c ≤ 591 ∧ c ≠ 215 ∧ c ≠ 247) ∨ (591 < c ∧ c < 913) ∨ (913 ≤ c ∧ c ≤ 969 ∧ c ≠ 930) ∨ (969 < c ∧ c < 1024) ∨ (1024 ≤ c ∧ c ≤ 1279) ∨ (1279 < c) := by omega
 rcases hs with hc | hc | hc | hc | hc | hc | hc | hc | hc | hc | hc | hc | hc | hc | hc
 ·have r : letterB c = false := by rw [← Bool.not_eq_true,hl]; omega
  have a0 : ¬ 65 ≤ c := by omega
  have a1 : ¬ 97 ≤ c := by omega
  have a2 : c ≠ 95 := by omega
  have a3 : c ≠ 215 := by omega
  have a4 : c ≠ 247 := by omega
  have a5 : c ≠ 930 := by omega
  have a6 : ¬ 192 ≤ c := by omega
  have a7 : ¬ 913 ≤ c := by omega
  have a8 : ¬ 1024 ≤ c := by omega
  simp -implicitDefEqProofs [r,a0,a1,a2,a3,a4,a5,a6,a7,a8]
 ·have r : letterB c = true := by rw [hl]; omega
  have a0 : 65 ≤ c := by omega
  have a1 : c ≤ 90 := by omega
  simp -implicitDefEqProofs [r,a0,a1]
 ·have r : letterB c = false := by rw [← Bool.not_eq_true,hl]; omega
  have a0 : 65 ≤ c := by omega
  have a1 : ¬ c ≤ 90 := by omega
  have a2 : ¬ 97 ≤ c := by omega
  have a3 : c ≠ 95 := by omega
  have a4 : c ≠ 215 := by omega
  have a5 : c ≠ 247 := by omega
  have a6 : c ≠ 930 := by omega
  have a7 : ¬ 192 ≤ c := by omega
  have a8 : ¬ 913 ≤ c := by omega
  have a9 : ¬ 1024 ≤ c := by omega
  simp -implicitDefEqProofs [r,a0,a1,a2,a3,a4,a5,a6,a7,a8,a9]
 ·have r : letterB c = true := by rw [hl]; omega
  have a0 : 65 ≤ c := by omega
  have a1 : ¬ c ≤ 90 := by omega
  have a2 : ¬ 97 ≤ c := by omega
  have a3 : c = 95 := by omega
  simp -implicitDefEqProofs [r,a0,a1,a2,a3]
  decide
 ·have r : letterB c = true := by rw [hl]; omega
  have a0 : 65 ≤ c := by omega
  have a1 : ¬ c ≤ 90 := by omega
  have a2 : 97 ≤ c := by omega
  have a3 : c ≤ 122 := by omega
  simp -implicitDefEqProofs [r,a0,a1,a2,a3]
 ·have r : letterB c = false := by rw [← Bool.not_eq_true,hl]; omega
  have a0 : 65 ≤ c := by omega
  have a1 : ¬ c ≤ 90 := by omega
  have a2 : 97 ≤ c := by omega
  have a3 : ¬ c ≤ 122 := by omega
  have a4 : c ≠ 95 := by omega
  have a5 : c ≠ 215 := by omega
  have a6 : c ≠ 247 := by omega
  have a7 : c ≠ 930 := by omega
  have a8 : ¬ 192 ≤ c := by omega
  have a9 : ¬ 913 ≤ c := by omega
  have a10 : ¬ 1024 ≤ c := by omega
  simp -implicitDefEqProofs [r,a0,a1,a2,a3,a4,a5,a6,a7,a8,a9,a10]
 ·have r : letterB c = false := by rw [← Bool.not_eq_true,hl]; omega
  have a0 : 65 ≤ c := by omega
  have a1 : ¬ c ≤ 90 := by omega
  have a2 : 97 ≤ c := by omega
  have a3 : ¬ c ≤ 122 := by omega
  have a4 : c ≠ 95 := by omega
  have a5 : c = 215 := by omega
  simp -implicitDefEqProofs [r,a0,a1,a2,a3,a4,a5]
  decide
 ·have r : letterB c = false := by rw [← Bool.not_eq_true,hl]; omega
  have a0 : 65 ≤ c := by omega
  have a1 : ¬ c ≤ 90 := by omega
  have a2 : 97 ≤ c := by omega
  have a3 : ¬ c ≤ 122 := by omega
  have a4 : c ≠ 95 := by omega
  have a5 : c ≠ 215 := by omega
  have a6 : c = 247 := by omega
  simp -implicitDefEqProofs [r,a0,a1,a2,a3,a4,a5,a6]
  decide
 ·have r : letterB c = false := by rw [← Bool.not_eq_true,hl]; omega
  have a0 : 65 ≤ c := by omega
  have a1 : ¬ c ≤ 90 := by omega
  have a2 : 97 ≤ c := by omega
  have a3 : ¬ c ≤ 122 := by omega
  have a4 : c ≠ 95 := by omega
  have a5 : c ≠ 215 := by omega
  have a6 : c ≠ 247 := by omega
  have a7 : c = 930 := by omega
  simp -implicitDefEqProofs [r,a0,a1,a2,a3,a4,a5,a6,a7]
  decide
 ·have r : letterB c = true := by rw [hl]; omega
  have a0 : 65 ≤ c := by omega
  have a1 : ¬ c ≤ 90 := by omega
  have a2 : 97 ≤ c := by omega
  have a3 : ¬ c ≤ 122 := by omega
  have a4 : c ≠ 95 := by omega
  have a5 : c ≠ 215 := by omega
  have a6 : c ≠ 247 := by omega
  have a7 : c ≠ 930 := by omega
  have a8 : 192 ≤ c := by omega
  have a9 : c ≤ 591 := by omega
  simp -implicitDefEqProofs [r,a0,a1,a2,a3,a4,a5,a6,a7,a8,a9]
 ·have r : letterB c = false := by rw [← Bool.not_eq_true,hl]; omega
  have a0 : 65 ≤ c := by omega
  have a1 : ¬ c ≤ 90 := by omega
  have a2 : 97 ≤ c := by omega
  have a3 : ¬ c ≤ 122 := by omega
  have a4 : c ≠ 95 := by omega
  have a5 : c ≠ 215 := by omega
  have a6 : c ≠ 247 := by omega
  have a7 : c ≠ 930 := by omega
  have a8 : 192 ≤ c := by omega
  have a9 : ¬ c ≤ 591 := by omega
  have a10 : ¬ 913 ≤ c := by omega
  have a11 : ¬ 1024 ≤ c := by omega
  simp -implicitDefEqProofs [r,a0,a1,a2,a3,a4,a5,a6,a7,a8,a9,a10,a11]
 ·have r : letterB c = true := by rw [hl]; omega
  have a0 : 65 ≤ c := by omega
  have a1 : ¬ c ≤ 90 := by omega
  have a2 : 97 ≤ c := by omega
  have a3 : ¬ c ≤ 122 := by omega
  have a4 : c ≠ 95 := by omega
  have a5 : c ≠ 215 := by omega
  have a6 : c ≠ 247 := by omega
  have a7 : c ≠ 930 := by omega
  have a8 : 192 ≤ c := by omega
  have a9 : ¬ c ≤ 591 := by omega
  have a10 : 913 ≤ c := by omega
  have a11 : c ≤ 969 := by omega
  simp -implicitDefEqProofs [r,a0,a1,a2,a3,a4,a5,a6,a7,a8,a9,a10,a11]
 ·have r : letterB c = false := by rw [← Bool.not_eq_true,hl]; omega
  have a0 : 65 ≤ c := by omega
  have a1 : ¬ c ≤ 90 := by omega
  have a2 : 97 ≤ c := by omega
  have a3 : ¬ c ≤ 122 := by omega
  have a4 : c ≠ 95 := by omega
  have a5 : c ≠ 215 := by omega
  have a6 : c ≠ 247 := by omega
  have a7 : c ≠ 930 := by omega
  have a8 : 192 ≤ c := by omega
  have a9 : ¬ c ≤ 591 := by omega
  have a10 : 913 ≤ c := by omega
  have a11 : ¬ c ≤ 969 := by omega
  have a12 : ¬ 1024 ≤ c := by omega
  simp -implicitDefEqProofs [r,a0,a1,a2,a3,a4,a5,a6,a7,a8,a9,a10,a11,a12]
 ·have r : letterB c = true := by rw [hl]; omega
  have a0 : 65 ≤ c := by omega
  have a1 : ¬ c ≤ 90 := by omega
  have a2 : 97 ≤ c := by omega
  have a3 : ¬ c ≤ 122 := by omega
  have a4 : c ≠ 95 := by omega
  have a5 : c ≠ 215 := by omega
  have a6 : c ≠ 247 := by omega
  have a7 : c ≠ 930 := by omega
  have a8 : 192 ≤ c := by omega
  have a9 : ¬ c ≤ 591 := by omega
  have a10 : 913 ≤ c := by omega
  have a11 : ¬ c ≤ 969 := by omega
  have a12 : 1024 ≤ c := by omega
  have a13 : c ≤ 1279 := by omega
  simp -implicitDefEqProofs [r,a0,a1,a2,a3,a4,a5,a6,a7,a8,a9,a10,a11,a12,a13]
 ·have r : letterB c = false := by rw [← Bool.not_eq_true,hl]; omega
  have a0 : 65 ≤ c := by omega
  have a1 : ¬ c ≤ 90 := by omega
  have a2 : 97 ≤ c := by omega
  have a3 : ¬ c ≤ 122 := by omega
  have a4 : c ≠ 95 := by omega
  have a5 : c ≠ 215 := by omega
  have a6 : c ≠ 247 := by omega
  have a7 : c ≠ 930 := by omega
  have a8 : 192 ≤ c := by omega
  have a9 : ¬ c ≤ 591 := by omega
  have a10 : 913 ≤ c := by omega
  have a11 : ¬ c ≤ 969 := by omega
  have a12 : 1024 ≤ c := by omega
  have a13 : ¬ c ≤ 1279 := by omega
  simp -implicitDefEqProofs [r,a0,a1,a2,a3,a4,a5,a6,a7,a8,a9,a10,a11,a12,a13]
theorem fold802 (c : Int) : callRO vp 802 [.int .i64 c] = some (.int .i64 (foldR c)) := by
 rw [callRO_K fn802]
 have hs : (c < 65) ∨ (65 ≤ c ∧ c ≤ 90) ∨ (90 < c ∧ c < 192) ∨ (192 ≤ c ∧ c ≤ 222 ∧ c ≠ 215) ∨ (c = 215) ∨ (222 < c ∧ c < 913) ∨ (913 ≤ c ∧ c ≤ 937 ∧ c ≠ 930) ∨ (c = 930) ∨ (937 < c ∧ c < 1024 ∧ c ≠ 962) ∨ (c = 962) ∨ (1024 ≤ c ∧ c < 1040) ∨ (1040 ≤ c ∧ c ≤ 1071) ∨ (1071 < c) := by omega
 rcases hs with hc | hc | hc | hc | hc | hc | hc | hc | hc | hc | hc | hc | hc
 ·have r : foldR c = c := by unfold foldR; omega
  have a0 : ¬ 65 ≤ c := by omega
  have a1 : ¬ 192 ≤ c := by omega
  have a2 : ¬ 913 ≤ c := by omega
  have a3 : ¬ 1040 ≤ c := by omega
  have a4 : ¬ 1024 ≤ c := by omega
  have a5 : c ≠ 962 := by omega
  simp -implicitDefEqProofs [r,a0,a1,a2,a3,a4,a5]
 ·have r : foldR c = c + 32 := by unfold foldR; omega
  have a0 : 65 ≤ c := by omega
  have a1 : c ≤ 90 := by omega
  have w : IntKind.i64.wrap (c + 32) = c + 32 := wrap64 (by omega) (by omega)
  simp -implicitDefEqProofs [r,a0,a1,w]
 ·have r : foldR c = c := by unfold foldR; omega
  have a0 : 65 ≤ c := by omega
  have a1 : ¬ c ≤ 90 := by omega
  have a2 : ¬ 192 ≤ c := by omega
  have a3 : ¬ 913 ≤ c := by omega
  have a4 : ¬ 1040 ≤ c := by omega
  have a5 : ¬ 1024 ≤ c := by omega
  have a6 : c ≠ 962 := by omega
  simp -implicitDefEqProofs [r,a0,a1,a2,a3,a4,a5,a6]
 ·have r : foldR c = c + 32 := by unfold foldR; omega
  have a0 : 65 ≤ c := by omega
  have a1 : ¬ c ≤ 90 := by omega
  have a2 : 192 ≤ c := by omega
  have a3 : c ≤ 222 := by omega
  have a4 : c ≠ 215 := by omega
  have w : IntKind.i64.wrap (c + 32) = c + 32 := wrap64 (by omega) (by omega)
  simp -implicitDefEqProofs [r,a0,a1,a2,a3,a4,w]
 ·have r : foldR c = c := by unfold foldR; omega
  have a0 : 65 ≤ c := by omega
  have a1 : ¬ c ≤ 90 := by omega
  have a2 : 192 ≤ c := by omega
  have a3 : c ≤ 222 := by omega
  have a4 : c = 215 := by omega
  have a5 : ¬ 913 ≤ c := by omega
  have a6 : ¬ 1040 ≤ c := by omega
  have a7 : ¬ 1024 ≤ c := by omega
  have a8 : c ≠ 962 := by omega
  simp -implicitDefEqProofs [r,a0,a1,a2,a3,a4,a5,a6,a7,a8]
  decide
 ·have r : foldR c = c := by unfold foldR; omega
  have a0 : 65 ≤ c := by omega
  have a1 : ¬ c ≤ 90 := by omega
  have a2 : 192 ≤ c := by omega
  have a3 : ¬ c ≤ 222 := by omega
  have a4 : ¬ 913 ≤ c := by omega
  have a5 : ¬ 1040 ≤ c := by omega
  have a6 : ¬ 1024 ≤ c := by omega
  have a7 : c ≠ 962 := by omega
  simp -implicitDefEqProofs [r,a0,a1,a2,a3,a4,a5,a6,a7]
 ·have r : foldR c = c + 32 := by unfold foldR; omega
  have a0 : 65 ≤ c := by omega
  have a1 : ¬ c ≤ 90 := by omega
  have a2 : 192 ≤ c := by omega
  have a3 : ¬ c ≤ 222 := by omega
  have a4 : 913 ≤ c := by omega
  have a5 : c ≤ 937 := by omega
  have a6 : c ≠ 930 := by omega
  have w : IntKind.i64.wrap (c + 32) = c + 32 := wrap64 (by omega) (by omega)
  simp -implicitDefEqProofs [r,a0,a1,a2,a3,a4,a5,a6,w]
 ·have r : foldR c = c := by unfold foldR; omega
  have a0 : 65 ≤ c := by omega
  have a1 : ¬ c ≤ 90 := by omega
  have a2 : 192 ≤ c := by omega
  have a3 : ¬ c ≤ 222 := by omega
  have a4 : 913 ≤ c := by omega
  have a5 : c ≤ 937 := by omega
  have a6 : c = 930 := by omega
  have a7 : ¬ 1040 ≤ c := by omega
  have a8 : ¬ 1024 ≤ c := by omega
  have a9 : c ≠ 962 := by omega
  simp -implicitDefEqProofs [r,a0,a1,a2,a3,a4,a5,a6,a7,a8,a9]
  decide
 ·have r : foldR c = c := by unfold foldR; omega
  have a0 : 65 ≤ c := by omega
  have a1 : ¬ c ≤ 90 := by omega
  have a2 : 192 ≤ c := by omega
  have a3 : ¬ c ≤ 222 := by omega
  have a4 : 913 ≤ c := by omega
  have a5 : ¬ c ≤ 937 := by omega
  have a6 : ¬ 1040 ≤ c := by omega
  have a7 : ¬ 1024 ≤ c := by omega
  have a8 : c ≠ 962 := by omega
  simp -implicitDefEqProofs [r,a0,a1,a2,a3,a4,a5,a6,a7,a8]
 ·have r : foldR c = 963 := by unfold foldR; omega
  have a0 : 65 ≤ c := by omega
  have a1 : ¬ c ≤ 90 := by omega
  have a2 : 192 ≤ c := by omega
  have a3 : ¬ c ≤ 222 := by omega
  have a4 : 913 ≤ c := by omega
  have a5 : ¬ c ≤ 937 := by omega
  have a6 : ¬ 1040 ≤ c := by omega
  have a7 : ¬ 1024 ≤ c := by omega
  have a8 : c = 962 := by omega
  simp -implicitDefEqProofs [r,a0,a1,a2,a3,a4,a5,a6,a7,a8]
  decide
 ·have r : foldR c = c + 80 := by unfold foldR; omega
  have a0 : 65 ≤ c := by omega
  have a1 : ¬ c ≤ 90 := by omega
  have a2 : 192 ≤ c := by omega
  have a3 : ¬ c ≤ 222 := by omega
  have a4 : 913 ≤ c := by omega
  have a5 : ¬ c ≤ 937 := by omega
  have a6 : ¬ 1040 ≤ c := by omega
  have a7 : 1024 ≤ c := by omega
  have a8 : c ≤ 1039 := by omega
  have w : IntKind.i64.wrap (c + 80) = c + 80 := wrap64 (by omega) (by omega)
  simp -implicitDefEqProofs [r,a0,a1,a2,a3,a4,a5,a6,a7,a8,w]
 ·have r : foldR c = c + 32 := by unfold foldR; omega
  have a0 : 65 ≤ c := by omega
  have a1 : ¬ c ≤ 90 := by omega
  have a2 : 192 ≤ c := by omega
  have a3 : ¬ c ≤ 222 := by omega
  have a4 : 913 ≤ c := by omega
  have a5 : ¬ c ≤ 937 := by omega
  have a6 : 1040 ≤ c := by omega
  have a7 : c ≤ 1071 := by omega
  have w : IntKind.i64.wrap (c + 32) = c + 32 := wrap64 (by omega) (by omega)
  simp -implicitDefEqProofs [r,a0,a1,a2,a3,a4,a5,a6,a7,w]
 ·have r : foldR c = c := by unfold foldR; omega
  have a0 : 65 ≤ c := by omega
  have a1 : ¬ c ≤ 90 := by omega
  have a2 : 192 ≤ c := by omega
  have a3 : ¬ c ≤ 222 := by omega
  have a4 : 913 ≤ c := by omega
  have a5 : ¬ c ≤ 937 := by omega
  have a6 : 1040 ≤ c := by omega
  have a7 : ¬ c ≤ 1071 := by omega
  have a8 : 1024 ≤ c := by omega
  have a9 : ¬ c ≤ 1039 := by omega
  have a10 : c ≠ 962 := by omega
  simp -implicitDefEqProofs [r,a0,a1,a2,a3,a4,a5,a6,a7,a8,a9,a10]
theorem slice_lo (s : List UInt8) (k : IntKind) (i : Int) (h0 : 0 ≤ i) (h1 : i ≤ s.length) : sliceV 0 (.str s) (some (.int k i)) none none = some (.str (s.drop i.toNat)) := by
 simp [sliceV,bnd,h0,h1]
theorem loop807 (lo : Nat) (h : Heap) (hlo : lo ≤ h.length) : ∀ (f : Nat) (s : List UInt8) (es : List V), s.length ≤ f → es.length + s.length ≤ 17592186044416 →
    (orc vp).loop lo [0, 3] L807_0 [(0, .str s), (3, .gsl h.length es.length 1 0 es.length)] (h ++ [.arr es]) =
      some (.brk 0, [(0, .str []), (3, .gsl h.length (es ++ (runesL f s).map iv).length 1 0 (es ++ (runesL f s).map iv).length), (8, .bool false)], h ++ [.arr (es ++ (runesL f s).map iv)]) := by
  intro f
  induction f with
  | zero =>
    intro s es hs hb
    obtain rfl := List.length_eq_zero_iff.1 (by omega : s.length = 0)
    rw [lp807_0]
    simp -implicitDefEqProofs [runesL]
  | succ f ih =>
    intro s es hs hb
    by_cases hz : s = []
    · subst hz
      rw [lp807_0]
      simp -implicitDefEqProofs [runesL]
    · have hp : 0 < s.length := List.length_pos_iff.2 hz
      have hw := firstR_wid s hz
      have hf := first801 s
      have hsl := slice_lo s .i64 (firstR s).2 (by omega) hw.2.1
      have ha : appV lo (h ++ [.arr es]) 1 8 (.gsl h.length es.length 1 0 es.length) [iv (firstR s).1] = some (.gsl h.length (es.length + 1) 1 0 (es.length + 1), h ++ [.arr (es ++ [iv (firstR s).1])]) := by
        rw [appV_at (es := es) (by simp) rfl hlo rfl (by simp [roomB]; omega)]; simp
      have ih := ih (s.drop (firstR s).2.toNat) (es ++ [iv (firstR s).1]) (by simp; omega) (by simp; omega)
      simp -implicitDefEqProofs [iv] at ih ha
      rw [lp807_0]
      simp -implicitDefEqProofs [hp, hf, hsl, ha, buildSl_eq, listOf_sl, ih, runesL, hz, iv]
theorem runes807 (lo : Nat) (h : Heap) (hlo : lo ≤ h.length) (s : List UInt8) (hs : s.length ≤ 17592186044416) : (orc vp).call 807 lo [.str s] h = some (.gsl h.length (runes s).length 1 0 (runes s).length,h ++ [.arr ((runes s).map iv)]) := by
 have hl := loop807 lo h hlo s.length s [] (by omega) (by simpa using hs)
 rw [← runes_L] at hl
 simp -implicitDefEqProofs at hl
 rw [call_K fn807]
 simp -implicitDefEqProofs [hl]
theorem runesK {β : Type} (lo : Nat) (h : Heap) (hlo : lo ≤ h.length) (s : List UInt8) (hs : s.length ≤ 17592186044416) (kv : V → Heap → Option β) : ownK vp lo h 807 [.str s] kv = kv (.gsl h.length (runes s).length 1 0 (runes s).length) (h ++ [.arr ((runes s).map iv)]) := by
 unfold ownK; rw [runes807 lo h hlo s hs]; rfl
def nameR (c : Int) : Bool := letterB c || (digitB c || (decide (c = 45) || decide (c = 46)))
theorem nameN_R : ∀ (l : List Int) (n : Int), 0 < n → nameN l n = if l.all nameR = true then some (n + l.length) else none
  | [], n, _ => by simp [nameN]
  | c :: r, n, h => by
    have ih := nameN_R r (n + 1) (by omega)
    simp only [nameN, List.all_cons, ih, nameR]
    have e : n + 1 + (r.length : Int) = n + ((c :: r).length : Nat) := by simp only [List.length_cons]; omega
    rw [e]
    have hc : letterB c = true ∨ letterB c = false := by cases letterB c <;> simp
    have hd : digitB c = true ∨ digitB c = false := by cases digitB c <;> simp
    rcases hc with h1 | h1 <;> rcases hd with h2 | h2 <;> by_cases h3 : c = 45 <;> by_cases h4 : c = 46 <;> simp [h1, h2, h3, h4] <;> omega
theorem mayN_R (s : List UInt8) : mayN s = (decide (1 ≤ (runes s).length) && (decide ((runes s).length ≤ 24) && (letterB ((runes s)[0]?.getD 0) && (runes s).all nameR))) := by
  unfold mayN
  cases h : runes s with
  | nil => simp [nameN]
  | cons c r =>
    simp only [nameN, true_or, and_true, List.length_cons, List.getElem?_cons_zero, Option.getD_some, List.all_cons]
    by_cases h1 : letterB c = true
    · have e := nameN_R r (0 + 1) (by omega)
      have h2 : nameR c = true := by simp [nameR, h1]
      rw [if_neg (by simp [h1]), e]
      by_cases h3 : r.all nameR = true
      · rw [if_pos h3]; simp [h1, h2, h3]; rw [Bool.eq_iff_iff]; simp; omega
      · rw [if_neg h3]; simp [h1, h2, h3]
    · simp only [Bool.not_eq_true] at h1; simp [h1]
theorem loop805 (rs : List Int) (hn : rs.length ≤ 24) : ∀ (r : List Int) (k : Int), 0 ≤ k → k ≤ rs.length → rs.drop k.toNat = r →
    (orc vp).loop 0 [3, 4] L805_0 [(3, .gsl 0 rs.length 1 0 rs.length), (4, .int .i64 k)] [.arr (rs.map iv)] =
      (if r.all nameR = true then some (.brk 0, [(3, .gsl 0 rs.length 1 0 rs.length), (4, .int .i64 rs.length), (25, .bool false)], [.arr (rs.map iv)]) else some (.ret, [(2, .bool false)], [.arr (rs.map iv)])) := by
  intro r
  induction r with
  | nil =>
    intro k hk hkl hd
    have hle := drop_nil hk hd
    have hlt : ¬ k < rs.length := by omega
    have he : k = rs.length := by omega
    rw [lp805_0]
    simp -implicitDefEqProofs [hlt, he]
  | cons c r ih =>
    intro k hk hkl hd
    obtain ⟨hg, hlt, hd'⟩ := drop_cons hk hd
    have w1 : IntKind.i64.wrap (k + 1) = k + 1 := wrap64 (by omega) (by omega)
    have ih := ih (k + 1) (by omega) (by omega) hd'
    have hi : iaddrV 1 (.gsl 0 rs.length 1 0 rs.length) (.int .i64 k) = some (.ptr 0 rs.length k.toNat 0) := by simp [iaddrV, hk, hlt]
    have hld : loadV [.arr (rs.map iv)] false 1 (.ptr 0 rs.length k.toNat 0) = some (.int .i64 c) := by
      rw [getI, if_pos hk] at hg
      simp [loadV, hg, iv]
    have hle := letter804 c
    rw [lp805_0]
    by_cases h1 : letterB c = true
    · have h2 : nameR c = true := by simp [nameR, h1]
      simp -implicitDefEqProofs [hlt, hi, hld, hle, h1, h2, w1, ih, -loadV_ptr]
    · simp only [Bool.not_eq_true] at h1
      by_cases d1 : 48 ≤ c
      · by_cases d2 : c ≤ 57
        · have h2 : nameR c = true := by simp [nameR, digitB, d1, d2]
          simp -implicitDefEqProofs [hlt, hi, hld, hle, h1, h2, d1, d2, w1, ih, -loadV_ptr]
        · have h2 : nameR c = false := by simp [nameR, digitB, h1, d2]; omega
          have d3 : ¬ c = 45 := by omega
          have d4 : ¬ c = 46 := by omega
          simp -implicitDefEqProofs [hlt, hi, hld, hle, h1, h2, d1, d2, d3, d4, -loadV_ptr]
      · by_cases d3 : c = 45
        · subst d3
          have h2 : nameR 45 = true := by decide
          simp -implicitDefEqProofs [hlt, hi, hld, hle, h1, h2, w1, ih, -loadV_ptr]
        · by_cases d4 : c = 46
          · subst d4
            have h2 : nameR 46 = true := by decide
            simp -implicitDefEqProofs [hlt, hi, hld, hle, h1, h2, w1, ih, -loadV_ptr]
          · have h2 : nameR c = false := by simp [nameR, digitB, h1, d1, d3, d4]
            simp -implicitDefEqProofs [hlt, hi, hld, hle, h1, h2, d1, d3, d4, -loadV_ptr]
set_option maxHeartbeats 2000000 in
theorem may805 (s : List UInt8) (hs : s.length ≤ 17592186044416) : callRO vp 805 [.str s] = some (.bool (mayN s)) := by
 have hr := fun kv => runesK (β := V) 0 [] (Nat.le_refl 0) s hs kv
 rw [mayN_R]
 generalize runes s = rs at hr
 rw [callRO_K fn805]
 by_cases h1 : rs.length < 1
 ·have : rs = [] := List.length_eq_zero_iff.1 (by omega)
  subst this
  simp -implicitDefEqProofs [hr]
 ·have h1' : ¬ (rs.length : Int) < 1 := by omega
  by_cases h2 : 24 < rs.length
  ·have h2' : (24 : Int) < rs.length := by omega
   have h3 : ¬ rs.length ≤ 24 := by omega
   simp -implicitDefEqProofs [hr,h1',h2',h3]
  ·have h2' : ¬ (24 : Int) < rs.length := by omega
   obtain ⟨c,hc⟩ : ∃ c,rs[0]? = some c := ⟨rs[0]'(by omega),by simp⟩
   have hi : iaddrV 1 (.gsl 0 rs.length 1 0 rs.length) (.int .i64 0) = some (.ptr 0 rs.length 0 0) := by
    have : (0 : Int) < rs.length := by omega
    have hne : ¬ rs = [] := fun e => by subst e; simp at h1
    simp [iaddrV,this,hne]
   have hld : loadV [.arr (rs.map iv)] false 1 (.ptr 0 rs.length 0 0) = some (.int .i64 c) := by simp [loadV,hc,iv]
   have hle := letter804 c
   have a1 : 1 ≤ rs.length := by omega
   have a2 : rs.length ≤ 24 := by omega
   by_cases h4 : letterB c = true
   ·have hl := loop805 rs a2 rs 0 (by omega) (by omega) rfl
    by_cases h5 : rs.all nameR = true
    ·rw [if_pos h5] at hl
     simp -implicitDefEqProofs [hr,h1',h2',hi,hld,hle,h4,hl,hc,a1,a2,h5,-loadV_ptr,-List.all_eq_true]
    ·rw [if_neg h5] at hl
     simp only [Bool.not_eq_true] at h5
     simp -implicitDefEqProofs [hr,h1',h2',hi,hld,hle,h4,hl,hc,a1,a2,h5,-loadV_ptr,-List.all_eq_true]
   ·simp only [Bool.not_eq_true] at h4
    simp -implicitDefEqProofs [hr,h1',h2',hi,hld,hle,h4,hc,a1,a2,-loadV_ptr]
theorem loop803 (rs : List Int) (hn : rs.length ≤ 17592186044416) : ∀ (r : List Int) (k : Int) (d : List Int), 0 ≤ k → d.length = k.toNat → rs = d ++ r →
    (orc vp).loop 0 [3, 4] L803_0 [(3, .gsl 0 rs.length 1 0 rs.length), (4, .int .i64 k)] [.arr ((d.map foldR ++ r).map iv)] =
      some (.brk 0, [(3, .gsl 0 rs.length 1 0 rs.length), (4, .int .i64 rs.length), (10, .bool false)], [.arr ((rs.map foldR).map iv)]) := by
  intro r
  induction r with
  | nil =>
    intro k d hk hd he
    have hlt : ¬ k < rs.length := by rw [he]; simp; omega
    have hke : k = rs.length := by rw [he]; simp; omega
    rw [List.append_nil] at he
    subst he
    rw [lp803_0]
    simp -implicitDefEqProofs [hlt, hke]
  | cons c r ih =>
    intro k d hk hd he
    have hlen : rs.length = k.toNat + (r.length + 1) := by rw [he]; simp; omega
    have hlt : k < rs.length := by omega
    have w1 : IntKind.i64.wrap (k + 1) = k + 1 := wrap64 (by omega) (by omega)
    have ih := ih (k + 1) (d ++ [c]) (by omega) (by simp; omega) (by rw [he]; simp)
    have hi : iaddrV 1 (.gsl 0 rs.length 1 0 rs.length) (.int .i64 k) = some (.ptr 0 rs.length k.toNat 0) := by simp [iaddrV, hk, hlt]
    have hlen2 : ((d.map foldR ++ c :: r).map iv).length = rs.length := by simp; omega
    have hget : ((d.map foldR ++ c :: r).map iv)[k.toNat]? = some (iv c) := by
      rw [List.getElem?_map, List.getElem?_append_right (by simp; omega)]; simp [hd]
    have hset : ((d.map foldR ++ c :: r).map iv).set k.toNat (iv (foldR c)) = ((d ++ [c]).map foldR ++ r).map iv := by
      have e : (d.map foldR ++ c :: r).map iv = (d.map foldR).map iv ++ iv c :: r.map iv := by simp
      rw [e, List.set_append_right _ _ (by simp; omega)]; simp [hd]
    have hf := fold802 c
    generalize hes : (d.map foldR ++ c :: r).map iv = es at hlen2 hget hset
    have hld : loadV [.arr es] false 1 (.ptr 0 rs.length k.toNat 0) = some (iv c) := by
      simp [loadV, hlen2, hget, iv]
    have hst : storeV 0 [.arr es] 1 (.ptr 0 rs.length k.toNat 0) (iv (foldR c)) = some [.arr (es.set k.toNat (iv (foldR c)))] := by
      simp [storeV, hlen2, hget, iv]
    rw [hset] at hst
    generalize ((d ++ [c]).map foldR ++ r).map iv = es2 at hst ih
    simp only [iv] at hld hst
    rw [lp803_0]
    simp -implicitDefEqProofs [hlt, hi, hld, hf, hst, w1, ih, -loadV_ptr, -storeV_ptr0]
theorem keys803 (s : List UInt8) (hs : s.length ≤ 17592186044416) : callRO vp 803 [.str s] = some (.sl 1 ((foldL s).map iv) .perm) := by
 have hr := fun kv => runesK (β := V) 0 [] (Nat.le_refl 0) s hs kv
 have hn : (runes s).length ≤ 17592186044416 := by have := runesL_len s.length s; rw [← runes_L] at this; omega
 unfold foldL
 generalize runes s = rs at hr hn
 have hl := loop803 rs hn rs 0 [] (by omega) rfl rfl
 rw [List.map_nil,List.nil_append] at hl
 rw [callRO_K fn803]
 generalize hx : (rs.map foldR).map iv = es2 at hl
 have hlen : es2.length = rs.length := by rw [← hx]; simp
 have hc : closedL es2 = true := by rw [← hx]; exact ivs_closed _
 simp -implicitDefEqProofs [hr,hl,hlen,hc]
def ordP : List Int → List Int → Option Int
 | a :: l,b :: r => if a < b then some (-1) else if b < a then some 1 else ordP l r
 | _,_ => none
def ordV (a b : List Int) : Int := match ordP a b with | some e => e | none => if a.length < b.length then -1 else if b.length < a.length then 1 else 0
theorem ordP_ne : ∀ (a b : List Int) {e : Int}, ordP a b = some e → e ≠ 0 ∧ a ≠ b
  | [], _, e, h => by simp [ordP] at h
  | _ :: _, [], e, h => by simp [ordP] at h
  | a :: l, b :: r, e, h => by
    simp only [ordP] at h
    split at h
    · simp only [Option.some.injEq] at h; exact ⟨by omega, by simp; omega⟩
    · split at h
      · simp only [Option.some.injEq] at h; exact ⟨by omega, by simp; omega⟩
      · have := ordP_ne l r h; exact ⟨this.1, by simp [this.2]⟩
theorem ordP_eq : ∀ (a b : List Int), ordP a b = none → a.length = b.length → a = b
  | [], [], _, _ => rfl
  | [], _ :: _, _, h => by simp at h
  | _ :: _, [], _, h => by simp at h
  | a :: l, b :: r, h, hl => by
    simp only [ordP] at h
    split at h
    · simp at h
    · split at h
      · simp at h
      · rw [ordP_eq l r h (by simpa using hl), show a = b by omega]
theorem ordV_0 (a b : List Int) : ordV a b = 0 ↔ a = b := by
  unfold ordV
  cases h : ordP a b with
  | some e => have := ordP_ne a b h; simp [this.1, this.2]
  | none =>
    simp only
    constructor
    · intro h2
      split at h2
      · omega
      · split at h2
        · omega
        · exact ordP_eq a b h (by omega)
    · rintro rfl; simp
theorem loop806 (a b : List Int) (ta tb : Tag) (ha : a.length ≤ 17592186044416) (hb : b.length ≤ 17592186044416) : ∀ (r t : List Int) (k : Int), 0 ≤ k → a.drop k.toNat = r → b.drop k.toNat = t → k ≤ a.length → k ≤ b.length →
    (orc vp).loop 0 [0, 1, 5] L806_0 [(0, .sl 1 (a.map iv) ta), (1, .sl 1 (b.map iv) tb), (5, .int .i64 k)] [] =
      (match ordP r t with
       | none => some (.brk 0, [(0, .sl 1 (a.map iv) ta), (1, .sl 1 (b.map iv) tb), (5, .int .i64 (k + (min r.length t.length : Nat))), (15, .bool false)], [])
       | some e => some (.ret, [(4, .int .i64 e)], []))
  | [], t, k, hk, h1, h2, l1, l2 => by
    have hlt : ¬ k < a.length := by have := drop_nil hk h1; omega
    rw [lp806_0]
    simp -implicitDefEqProofs [hlt, ordP]
  | x :: r, [], k, hk, h1, h2, l1, l2 => by
    obtain ⟨_, hlt, _⟩ := drop_cons hk h1
    have hlt2 : ¬ k < b.length := by have := drop_nil hk h2; omega
    rw [lp806_0]
    simp -implicitDefEqProofs [hlt, hlt2, ordP]
  | x :: r, y :: t, k, hk, h1, h2, l1, l2 => by
    obtain ⟨g1, hlt, h1'⟩ := drop_cons hk h1
    obtain ⟨g2, hlt2, h2'⟩ := drop_cons hk h2
    have w1 : IntKind.i64.wrap (k + 1) = k + 1 := wrap64 (by omega) (by omega)
    have ih := loop806 a b ta tb ha hb r t (k + 1) (by omega) h1' h2' (by omega) (by omega)
    have hm : k + 1 + ((min r.length t.length : Nat) : Int) = k + ((min (x :: r).length (y :: t).length : Nat) : Int) := by simp only [List.length_cons]; omega
    rw [hm] at ih
    rw [lp806_0]
    by_cases c1 : x < y
    · simp -implicitDefEqProofs [hlt, hlt2, g1, g2, c1, ordP, iv]
    · by_cases c2 : y < x
      · simp -implicitDefEqProofs [hlt, hlt2, g1, g2, c1, c2, ordP, iv]
      · simp -implicitDefEqProofs [hlt, hlt2, g1, g2, c1, c2, ordP, iv, w1] at ih ⊢
        exact ih
theorem order806 (a b : List Int) (ta tb : Tag) (ha : a.length ≤ 17592186044416) (hb : b.length ≤ 17592186044416) : callRO vp 806 [.sl 1 (a.map iv) ta, .sl 1 (b.map iv) tb] = some (.int .i64 (ordV a b)) := by
  have hl := loop806 a b ta tb ha hb a b 0 (by omega) rfl rfl (by omega) (by omega)
  rw [callRO_K fn806]
  cases h : ordP a b with
  | some e =>
    rw [h] at hl
    simp -implicitDefEqProofs [hl, ordV, h]
  | none =>
    rw [h] at hl
    by_cases c1 : (a.length : Int) < b.length
    · have c1' : a.length < b.length := by omega
      simp -implicitDefEqProofs [hl, ordV, h, c1, c1']
    · have c1' : ¬ a.length < b.length := by omega
      by_cases c2 : (b.length : Int) < a.length
      · have c2' : b.length < a.length := by omega
        simp -implicitDefEqProofs [hl, ordV, h, c1, c1', c2, c2']
      · have c2' : ¬ b.length < a.length := by omega
        simp -implicitDefEqProofs [hl, ordV, h, c1, c1', c2, c2']
theorem foldL_len (s : List UInt8) : (foldL s).length ≤ s.length := by
 have := runesL_len s.length s
 rw [← runes_L] at this
 simpa [foldL] using this
theorem alike818 (s t : List UInt8) (hs : s.length ≤ 17592186044416) (ht : t.length ≤ 17592186044416) : callRO vp 818 [.str s,.str t] = some (.bool (decide (keyL s = keyL t))) := by
 have k1 := keys803 s hs
 have k2 := keys803 t ht
 have l1 := foldL_len s
 have l2 := foldL_len t
 have ho := order806 (foldL s) (foldL t) .perm .perm (by omega) (by omega)
 have e : decide (ordV (foldL s) (foldL t) = 0) = decide (keyL s = keyL t) := by
  rw [decide_eq_decide,ordV_0,keyL_iff]
 rw [callRO_K fn818]
 simp -implicitDefEqProofs [k1,k2,ho,e]
theorem loop822 (s : List UInt8) (hs : s.length ≤ 17592186044416) : ∀ (r : List UInt8) (k : Int), 0 ≤ k → k ≤ s.length → s.drop k.toNat = r →
    (orc vp).loop 0 [0, 3] L822_0 [(0, .str s), (3, .int .i64 k)] [] =
      (if (46 : UInt8) ∈ r then some (.ret, [(2, .bool false)], []) else some (.brk 0, [(0, .str s), (3, .int .i64 s.length), (7, .bool false)], [])) := by
  intro r
  induction r with
  | nil =>
    intro k hk hkl hd
    have hle := drop_nil hk hd
    have hlt : ¬ k < s.length := by omega
    have he : k = s.length := by omega
    rw [lp822_0]
    simp -implicitDefEqProofs [hlt, he]
  | cons c r ih =>
    intro k hk hkl hd
    obtain ⟨hg, hlt, hd'⟩ := drop_cons hk hd
    have w1 : IntKind.i64.wrap (k + 1) = k + 1 := wrap64 (by omega) (by omega)
    have ih := ih (k + 1) (by omega) (by omega) hd'
    rw [lp822_0]
    by_cases hc : c = 46
    · subst hc
      simp -implicitDefEqProofs [hlt, hg, byteV]
    · have h1 : ¬ (c.toNat : Int) = 46 := fun e => hc (UInt8.toNat_inj.1 (by have : (46 : UInt8).toNat = 46 := rfl
                                                                             omega))
      have h2 : ¬ (46 : UInt8) = c := fun e => hc e.symm
      simp -implicitDefEqProofs [hlt, hg, byteV, h1, h2, w1, ih]
theorem idx_mem : ∀ (s : List UInt8) (c : UInt8), 0 ≤ Lib.indexByte s c ↔ c ∈ s
  | [], c => by simp [Lib.indexByte]
  | b :: l, c => by
    have ih := idx_mem l c
    have hg := Lib.indexByte_ge l c
    simp only [Lib.indexByte, List.mem_cons]
    by_cases h : b = c
    · subst h; simp
    · rw [if_neg (by simpa using h)]
      have h' : ¬ c = b := fun e => h e.symm
      simp only [h', false_or, ← ih]
      split
      · rename_i e; simp at e; omega
      · rename_i e; simp at e; omega
theorem rplain822 (s : List UInt8) (hs : s.length ≤ 17592186044416) : callRO vp 822 [.str s] = some (.bool (plainN s)) := by
 have hl := loop822 s hs s 0 (by omega) (by omega) rfl
 have hm := may805 s hs
 have hi := idx_mem s 46
 rw [callRO_K fn822]
 by_cases h : (46 : UInt8) ∈ s
 ·rw [if_pos h] at hl
  simp -implicitDefEqProofs [hl,plainN,hi,h]
 ·rw [if_neg h] at hl
  simp -implicitDefEqProofs [hl,plainN,hi,h,hm]
end Go.VE.Un
namespace Go.VE
set_option linter.unusedVariables false
def rowV (f : Nat → Bool) : List V := (List.range 128).map fun j => .bool (f j)
@[simp] theorem rowV_length (f : Nat → Bool) : (rowV f).length = 128 := by simp [rowV]
theorem rowV_get (f : Nat → Bool) {j : Nat} (h : j < 128) : (rowV f)[j]? = some (.bool (f j)) := by simp [rowV,h]
theorem rowV_set (f g : Nat → Bool) {o : Nat} {b : Bool} (h : ∀ j,j < 128 → g j = if j = o then b else f j) : (rowV f).set o (.bool b) = rowV g := by
 apply List.ext_getElem?
 intro j
 by_cases hj : j < 128
 ·rw [List.getElem?_set,rowV_get g hj,h j hj]
  by_cases e : o = j
  ·subst e; simp [hj]
  ·have e' : ¬ j = o := fun x => e x.symm
   simp [e,e',rowV_get f hj]
 ·rw [List.getElem?_eq_none (by simp; omega),List.getElem?_eq_none (by simp; omega)]
theorem rowV_congr {f g : Nat → Bool} (h : ∀ j,j < 128 → f j = g j) : rowV f = rowV g := by
 unfold rowV; apply List.map_congr_left; intro j hj; rw [h j (by simpa using hj)]
theorem row0 : rp 128 (.bool false) = rowV fun _ => false := by
 apply List.ext_getElem?
 intro j
 by_cases hj : j < 128
 ·rw [rowV_get _ hj,rp,List.getElem?_replicate,if_pos hj]
 ·rw [List.getElem?_eq_none (by simp; omega),List.getElem?_eq_none (by simp; omega)]
@[simp] theorem rowV_closed (f : Nat → Bool) : closedL (rowV f) = true := by unfold rowV; rw [closedL_map]; simp
@[simp] theorem rowV_below (k : Nat) (f : Nat → Bool) : belowL k (rowV f) = true := belowL_map (fun _ => by simp) _
theorem bit_eq (x k : Nat) : decide (((x / 2 ^ k : Nat) : Int) % 2 = 1) = x.testBit k := by
 rw [Nat.testBit_eq_decide_div_mod_eq,decide_eq_decide]; omega
theorem tb_hi (n k : Nat) : (n / 18446744073709551616).testBit k = n.testBit (k + 64) := by
 rw [show (18446744073709551616 : Nat) = 2 ^ 64 from rfl,Nat.testBit_div_two_pow,Nat.add_comm]
theorem tb_lo (n k : Nat) (h : k < 64) : (n % 18446744073709551616).testBit k = n.testBit k := by
 rw [show (18446744073709551616 : Nat) = 2 ^ 64 from rfl,Nat.testBit_mod_two_pow]; simp [h]
end Go.VE
namespace Go.VE.Un
open Go.VE
set_option linter.unusedVariables false
set_option linter.unusedSimpArgs false
theorem rem2 (x : Nat) : binV .rem (.int .u64 (x : Int)) (.int .u64 2) = some (.int .u64 ((x : Int) % 2)) := by
 rw [bin_rem _ _ _ (by decide)]; simp [Int.tmod_eq_emod_of_nonneg]
theorem quo2 (x : Nat) (h : x < 18446744073709551616) : binV .quo (.int .u64 (x : Int)) (.int .u64 2) = some (.int .u64 ((x / 2 : Nat) : Int)) := by
 rw [bin_quo _ _ _ (by decide)]
 have : ((x : Int).tdiv 2) = ((x / 2 : Nat) : Int) := by rw [Int.tdiv_eq_ediv_of_nonneg (by omega)]; omega
 rw [this,wrapN (by omega)]
theorem loop777 (n : Nat) (hn : n < 340282366920938463463374607431768211456) : ∀ (j k : Nat), k + j = 64 →
    (orc vp).loop 0 [0, 1, 4, 5, 6] L777_0 [(0, .int .u64 ((n / 18446744073709551616 / 2 ^ k : Nat) : Int)), (1, .int .u64 ((n % 18446744073709551616 / 2 ^ k : Nat) : Int)), (4, .ptr 0 1 0 0), (5, .ptr 1 1 0 0), (6, .int .i64 k)]
      [.arr [.agg (rowV fun _ => false)], .arr [.agg (rowV fun i => decide (i % 64 < k) && n.testBit i)]] =
      some (.brk 0, [(0, .int .u64 ((n / 18446744073709551616 / 2 ^ 64 : Nat) : Int)), (1, .int .u64 ((n % 18446744073709551616 / 2 ^ 64 : Nat) : Int)), (4, .ptr 0 1 0 0), (5, .ptr 1 1 0 0), (6, .int .i64 64), (8, .bool false)],
        [.arr [.agg (rowV fun _ => false)], .arr [.agg (rowV n.testBit)]]) := by
  intro j
  induction j with
  | zero =>
    intro k hk
    obtain rfl : k = 64 := by omega
    have e : (rowV fun i => decide (i % 64 < 64) && n.testBit i) = rowV n.testBit := rowV_congr fun i _ => by simp [Nat.mod_lt]
    rw [lp777_0, e]
    simp -implicitDefEqProofs [-Int.natCast_ediv, -Int.natCast_emod, -Nat.reducePow]
  | succ j ih =>
    intro k hk
    have hlt : (k : Int) < 64 := by omega
    have w1 : IntKind.i64.wrap ((k : Int) + 1) = (k : Int) + 1 := wrap64 (by omega) (by omega)
    have w2 : IntKind.i64.wrap ((k : Int) + 64) = (k : Int) + 64 := wrap64 (by omega) (by omega)
    have hh : n / 18446744073709551616 / 2 ^ k < 18446744073709551616 := Nat.lt_of_le_of_lt (Nat.div_le_self _ _) (hi_lt hn)
    have hl : n % 18446744073709551616 / 2 ^ k < 18446744073709551616 := Nat.lt_of_le_of_lt (Nat.div_le_self _ _) (Nat.mod_lt _ (by decide))
    have d1 : n / 18446744073709551616 / 2 ^ k / 2 = n / 18446744073709551616 / 2 ^ (k + 1) := by rw [Nat.div_div_eq_div_mul, ← Nat.pow_succ]
    have d2 : n % 18446744073709551616 / 2 ^ k / 2 = n % 18446744073709551616 / 2 ^ (k + 1) := by rw [Nat.div_div_eq_div_mul, ← Nat.pow_succ]
    have q1 := quo2 _ hh
    have q2 := quo2 _ hl
    have r1 := rem2 (n / 18446744073709551616 / 2 ^ k)
    have r2 := rem2 (n % 18446744073709551616 / 2 ^ k)
    rw [d1] at q1; rw [d2] at q2
    have b1 := bit_eq (n / 18446744073709551616) k
    have b2 := bit_eq (n % 18446744073709551616) k
    rw [tb_hi] at b1; rw [tb_lo n k (by omega)] at b2
    have s1 : (rowV fun i => decide (i % 64 < k) && n.testBit i).set k (.bool (n.testBit k)) = rowV fun i => (decide (i % 64 < k) || decide (i = k)) && n.testBit i := rowV_set _ _ fun i hi => by
      by_cases e : i = k
      · subst e; simp
      · simp [e]
    have s2 : (rowV fun i => (decide (i % 64 < k) || decide (i = k)) && n.testBit i).set (k + 64) (.bool (n.testBit (k + 64))) = rowV fun i => decide (i % 64 < k + 1) && n.testBit i := rowV_set _ _ fun i hi => by
      by_cases e : i = k + 64
      · subst e; simp
        intro; omega
      · rw [if_neg e]; congr 1
        rw [Bool.eq_iff_iff]; simp; omega
    have ih := ih (k + 1) (by omega)
    have p1 : ((k + 1 : Nat) : Int) = (k : Int) + 1 := by omega
    rw [p1] at ih
    have z1 : ((k : Int) + 64).toNat = k + 64 := by omega
    have g1 : (0 : Int) ≤ (k : Int) + 64 := by omega
    have g2 : (k : Int) + 64 < 128 := by omega
    have g3 : (k : Int) < 128 := by omega
    have l1 : k < 128 := by omega
    have l2 : k + 64 < 128 := by omega
    generalize n / 18446744073709551616 / 2 ^ k = H at *
    generalize n % 18446744073709551616 / 2 ^ k = L at *
    generalize n / 18446744073709551616 / 2 ^ (k + 1) = H' at *
    generalize n % 18446744073709551616 / 2 ^ (k + 1) = L' at *
    generalize n / 18446744073709551616 / 2 ^ 64 = H2 at *
    generalize n % 18446744073709551616 / 2 ^ 64 = L2 at *
    rw [lp777_0]
    simp -implicitDefEqProofs [hlt, w1, w2, q1, q2, r1, r2, b1, b2, s1, s2, ih, z1, g1, g2, g3, l1, l2, -Int.natCast_ediv, -Int.natCast_emod]
theorem of777 (n : Nat) (hn : n < 340282366920938463463374607431768211456) : callRO vp 777 [.int .u64 ((n / 18446744073709551616 : Nat) : Int),.int .u64 ((n % 18446744073709551616 : Nat) : Int)] = some (.agg (rowV n.testBit)) := by
 have hl := loop777 n hn 64 0 (by omega)
 have e : (rowV fun i => decide (i % 64 < 0) && n.testBit i) = rowV fun _ => false := rowV_congr fun i _ => by simp
 rw [e,Nat.pow_zero,Nat.div_one,Nat.div_one] at hl
 simp only [Int.natCast_zero] at hl
 rw [callRO_K fn777]
 generalize n / 18446744073709551616 = H at *
 generalize n % 18446744073709551616 = L at *
 simp -implicitDefEqProofs [row0,hl]
def lenT (n : Nat) : Nat → Nat
 | 0 => 0
 | k + 1 => if n.testBit k = true then k + 1 else lenT n k
theorem lenT_le (n : Nat) (w : Nat) : ∀ k, lenT n k ≤ w ↔ ∀ i, w ≤ i → i < k → n.testBit i = false
  | 0 => by simp [lenT]
  | k + 1 => by
    simp only [lenT]
    split
    · rename_i h
      constructor
      · intro h1 i h2 h3; omega
      · intro h1
        rcases Nat.lt_or_ge k w with h2 | h2
        · omega
        · rw [h1 k h2 (by omega)] at h; simp at h
    · rename_i h
      rw [lenT_le n w k]
      constructor
      · intro h1 i h2 h3
        rcases Nat.lt_or_ge i k with h4 | h4
        · exact h1 i h2 h4
        · obtain rfl : i = k := by omega
          simpa using h
      · intro h1 i h2 h3; exact h1 i h2 (by omega)
theorem lenT_iff (n w : Nat) (hn : n < 340282366920938463463374607431768211456) : lenT n 128 ≤ w ↔ n < 2 ^ w := by
 rw [lenT_le]
 constructor
 ·intro h
  apply Nat.lt_pow_two_of_testBit
  intro i hi
  rcases Nat.lt_or_ge i 128 with h2 | h2
  ·exact h i hi h2
  ·exact Nat.testBit_lt_two_pow (Nat.lt_of_lt_of_le hn (Nat.pow_le_pow_right (by decide) h2 : 2 ^ 128 ≤ 2 ^ i))
 ·intro h i hi _
  exact Nat.testBit_lt_two_pow (Nat.lt_of_lt_of_le h (Nat.pow_le_pow_right (by decide) hi))
theorem loop773 (n : Nat) : ∀ (k : Nat), k ≤ 128 → ∃ fr,
    (orc vp).loop 0 [1, 3] L773_0 [(1, .ptr 0 1 0 0), (3, .int .i64 ((k : Int) - 1))] [.arr [.agg (rowV n.testBit)]] =
      (if lenT n k = 0 then some (.brk 0, [(1, .ptr 0 1 0 0), (3, .int .i64 (-1)), (5, .bool false)], [.arr [.agg (rowV n.testBit)]]) else some (.ret, fr, [.arr [.agg (rowV n.testBit)]])) ∧ lk fr 2 = .int .i64 (lenT n k) := by
  intro k
  induction k with
  | zero =>
    intro _
    refine ⟨[(2, .int .i64 0)], ?_, rfl⟩
    rw [lp773_0]
    simp -implicitDefEqProofs [lenT]
  | succ k ih =>
    intro hk
    have h0 : (((k + 1 : Nat) : Int) - 1) = k := by omega
    have w1 : IntKind.i64.wrap ((k : Int) - 1) = (k : Int) - 1 := wrap64 (by omega) (by omega)
    have w2 : IntKind.i64.wrap ((k : Int) + 1) = (k : Int) + 1 := wrap64 (by omega) (by omega)
    have g3 : (k : Int) < 128 := by omega
    have hg := rowV_get n.testBit (show k < 128 by omega)
    rw [h0, lp773_0]
    by_cases c : n.testBit k = true
    · refine ⟨[(2, .int .i64 ((k : Int) + 1))], ?_, by simp [lenT, c]⟩
      simp -implicitDefEqProofs [lenT, c, g3, hg, w2]
    · simp only [Bool.not_eq_true] at c
      obtain ⟨fr, ih, e⟩ := ih (by omega)
      refine ⟨fr, ?_, by simp [lenT, c, e]⟩
      simp -implicitDefEqProofs [lenT, c, g3, hg, w1, ih]
theorem len773 (n : Nat) : callRO vp 773 [.agg (rowV n.testBit)] = some (.int .i64 (lenT n 128)) := by
 obtain ⟨fr,hl,e⟩ := loop773 n 128 (by omega)
 rw [show ((128 : Nat) : Int) - 1 = 127 from rfl] at hl
 rw [callRO_K fn773]
 by_cases c : lenT n 128 = 0
 ·rw [if_pos c] at hl
  simp -implicitDefEqProofs [hl,c]
 ·rw [if_neg c] at hl
  simp -implicitDefEqProofs [hl,e]
theorem may785 (x : Vec) : callRO vp 785 [x.v] = some (.bool x.good) := by
 have hn := x.n_lt
 have h1 : ((x.n / 18446744073709551616 : Nat) : Int) = x.Hi.n := by have := x.Hi.lo; have := x.Lo.lo; have := x.Lo.hi; unfold Vec.n; omega
 have h2 : ((x.n % 18446744073709551616 : Nat) : Int) = x.Lo.n := by have := x.Hi.lo; have := x.Lo.lo; have := x.Lo.hi; unfold Vec.n; omega
 have ho := of777 x.n hn
 rw [h1,h2] at ho
 have hl := len773 x.n
 rw [callRO_K fn785]
 by_cases c1 : 1 ≤ x.W.n
 ·by_cases c2 : x.W.n ≤ 128
  ·have hi := lenT_iff x.n x.W.n.toNat hn
   by_cases c3 : x.n < 2 ^ x.W.n.toNat
   ·have c4 : (lenT x.n 128 : Int) ≤ x.W.n := by have := hi.2 c3; omega
    simp -implicitDefEqProofs [c1,c2,ho,hl,c3,c4,Vec.good]
   ·have c4 : ¬ (lenT x.n 128 : Int) ≤ x.W.n := fun h => c3 (hi.1 (by omega))
    simp -implicitDefEqProofs [c1,c2,ho,hl,c3,c4,Vec.good]
  ·simp -implicitDefEqProofs [c1,c2,Vec.good]
 ·simp -implicitDefEqProofs [c1,Vec.good]
end Go.VE.Un
namespace Go.VE
set_option linter.unusedVariables false
def bv (b : Bool) : V := .bool b
@[simp] theorem bv_below (k : Nat) (b : Bool) : belowB k (bv b) = true := nr rfl
@[simp] theorem bv_closed (b : Bool) : closedB (bv b) = true := nr rfl
@[simp] theorem bvs_closed (l : List Bool) : closedL (l.map bv) = true := by rw [closedL_map]; simp
@[simp] theorem bvs_below (k : Nat) (l : List Bool) : belowL k (l.map bv) = true := belowL_map (fun _ => rfl) l
def bitsL (n w : Nat) : List Bool := (List.range w).map n.testBit
@[simp] theorem bitsL_len (n w : Nat) : (bitsL n w).length = w := by simp [bitsL]
theorem bitsL_get (n : Nat) {w j : Nat} (h : j < w) : (bitsL n w)[j]? = some (n.testBit j) := by simp [bitsL,h]
theorem bitsL_succ (n w : Nat) : bitsL n (w + 1) = bitsL n w ++ [n.testBit w] := by simp [bitsL,List.range_succ]
end Go.VE
namespace Go.VE.Un
open Go.VE
set_option linter.unusedVariables false
set_option linter.unusedSimpArgs false
theorem loop783 (x : Vec) (g : x.good = true) : ∀ (j k : Nat), k + j = x.W.n.toNat →
    (orc vp).loop 0 [1, 3, 4, 5] L783_0 [(1, .ptr 0 1 0 0), (3, .ptr 1 1 0 0), (4, .gsl 2 k 1 0 k), (5, .int .i64 k)] [.arr [x.v], .arr [.agg (rowV x.n.testBit)], .arr ((bitsL x.n k).map bv)] =
      some (.brk 0, [(1, .ptr 0 1 0 0), (3, .ptr 1 1 0 0), (4, .gsl 2 x.W.n.toNat 1 0 x.W.n.toNat), (5, .int .i64 x.W.n), (18, .bool false)], [.arr [x.v], .arr [.agg (rowV x.n.testBit)], .arr ((bitsL x.n x.W.n.toNat).map bv)]) := by
  simp only [Vec.good, Bool.and_eq_true, decide_eq_true_eq] at g
  intro j
  induction j with
  | zero =>
    intro k hk
    obtain rfl : k = x.W.n.toNat := by omega
    have e : ((x.W.n.toNat : Nat) : Int) = x.W.n := by omega
    rw [lp783_0, e]
    simp -implicitDefEqProofs [l783_0]
  | succ j ih =>
    intro k hk
    have h1 : (k : Int) < x.W.n := by omega
    have h2 : (k : Int) < 128 := by omega
    have w1 : IntKind.i64.wrap ((k : Int) + 1) = (k : Int) + 1 := wrap64 (by omega) (by omega)
    have ih := ih (k + 1) (by omega)
    have p1 : ((k + 1 : Nat) : Int) = (k : Int) + 1 := by omega
    rw [p1] at ih
    have hg := rowV_get x.n.testBit (show k < 128 by omega)
    have ha : appV 0 [.arr [x.v], .arr [.agg (rowV x.n.testBit)], .arr ((bitsL x.n k).map bv)] 1 1 (.gsl 2 k 1 0 k) [.bool (x.n.testBit k)] = some (.gsl 2 (k + 1) 1 0 (k + 1), [.arr [x.v], .arr [.agg (rowV x.n.testBit)], .arr ((bitsL x.n (k + 1)).map bv)]) := by
      have := appV_2 (lo := 0) (z := 1) (bytes := 1) (es := (bitsL x.n k).map bv) (ns := [.bool (x.n.testBit k)]) (b := .arr [x.v]) (c := .arr [.agg (rowV x.n.testBit)]) (h := []) (by omega) rfl (by simp [roomB]; omega)
      rw [bitsL_succ, List.map_append]
      simpa [bv] using this
    rw [lp783_0]
    simp -implicitDefEqProofs [h1, h2, w1, hg, buildSl_eq, listOf_sl, ha, ih]
theorem bits783 (x : Vec) (g : x.good = true) : callRO vp 783 [x.v] = some (.sl 1 ((bitsL x.n x.W.n.toNat).map bv) .perm) := by
 have hn := x.n_lt
 have h1 : ((x.n / 18446744073709551616 : Nat) : Int) = x.Hi.n := by have := x.Hi.lo; have := x.Lo.lo; have := x.Lo.hi; unfold Vec.n; omega
 have h2 : ((x.n % 18446744073709551616 : Nat) : Int) = x.Lo.n := by have := x.Hi.lo; have := x.Lo.lo; have := x.Lo.hi; unfold Vec.n; omega
 have ho := of777 x.n hn
 rw [h1,h2] at ho
 have hl := loop783 x g x.W.n.toNat 0 (by omega)
 have e : (bitsL x.n 0).map bv = [] := rfl
 rw [e] at hl
 simp only [Int.natCast_zero] at hl
 rw [callRO_K fn783]
 simp -implicitDefEqProofs [ho,row0,hl]
theorem dbl (x : Nat) (i : Nat) : 2 * (x / 2 ^ (i + 1)) + (if x.testBit i = true then 1 else 0) = x / 2 ^ i := by
 have h1 : x / 2 ^ (i + 1) = x / 2 ^ i / 2 := by rw [Nat.div_div_eq_div_mul,← Nat.pow_succ]
 have h2 : x.testBit i = decide (x / 2 ^ i % 2 = 1) := Nat.testBit_eq_decide_div_mod_eq
 rw [h1,h2]
 by_cases c : x / 2 ^ i % 2 = 1
 ·simp [c]; omega
 ·simp [c]; omega
theorem mul2 (x : Nat) (h : 2 * x < 18446744073709551616) : binV .mul (.int .u64 2) (.int .u64 (x : Int)) = some (.int .u64 ((2 * x : Nat) : Int)) := by
 rw [bin_mul,show (2 : Int) * (x : Int) = ((2 * x : Nat) : Int) by omega,wrapN h]
theorem add1 (x : Nat) (h : x + 1 < 18446744073709551616) : binV .add (.int .u64 (x : Int)) (.int .u64 1) = some (.int .u64 ((x + 1 : Nat) : Int)) := by
 rw [bin_add,show (x : Int) + 1 = ((x + 1 : Nat) : Int) by omega,wrapN h]
theorem loop772 (n : Nat) (hn : n < 340282366920938463463374607431768211456) : ∀ (k : Nat), k ≤ 64 →
    (orc vp).loop 0 [1, 4, 5, 6] L772_0 [(1, .ptr 0 1 0 0), (4, .int .u64 ((n / 18446744073709551616 / 2 ^ k : Nat) : Int)), (5, .int .u64 ((n % 18446744073709551616 / 2 ^ k : Nat) : Int)), (6, .int .i64 ((k : Int) - 1))] [.arr [.agg (rowV n.testBit)]] =
      some (.brk 0, [(1, .ptr 0 1 0 0), (4, .int .u64 ((n / 18446744073709551616 : Nat) : Int)), (5, .int .u64 ((n % 18446744073709551616 : Nat) : Int)), (6, .int .i64 (-1)), (8, .bool false)], [.arr [.agg (rowV n.testBit)]]) := by
  intro k
  induction k with
  | zero =>
    intro _
    rw [lp772_0]
    simp -implicitDefEqProofs [-Int.natCast_ediv, -Int.natCast_emod]
  | succ k ih =>
    intro hk
    have ih := ih (by omega)
    have h0 : (((k + 1 : Nat) : Int) - 1) = k := by omega
    have w1 : IntKind.i64.wrap ((k : Int) - 1) = (k : Int) - 1 := wrap64 (by omega) (by omega)
    have w2 : IntKind.i64.wrap ((k : Int) + 64) = (k : Int) + 64 := wrap64 (by omega) (by omega)
    have z1 : ((k : Int) + 64).toNat = k + 64 := by omega
    have g1 : (0 : Int) ≤ (k : Int) + 64 := by omega
    have g2 : (k : Int) + 64 < 128 := by omega
    have g3 : (k : Int) < 128 := by omega
    have b1 := rowV_get n.testBit (show k < 128 by omega)
    have b2 := rowV_get n.testBit (show k + 64 < 128 by omega)
    have t1 := tb_hi n k
    have t2 := tb_lo n k (by omega)
    have d1 := dbl (n / 18446744073709551616) k
    have d2 := dbl (n % 18446744073709551616) k
    rw [t1] at d1; rw [t2] at d2
    have hh : n / 18446744073709551616 / 2 ^ k < 18446744073709551616 := Nat.lt_of_le_of_lt (Nat.div_le_self _ _) (hi_lt hn)
    have hl : n % 18446744073709551616 / 2 ^ k < 18446744073709551616 := Nat.lt_of_le_of_lt (Nat.div_le_self _ _) (Nat.mod_lt _ (by decide))
    rw [h0, lp772_0]
    generalize n / 18446744073709551616 / 2 ^ k = H at *
    generalize n % 18446744073709551616 / 2 ^ k = L at *
    generalize n / 18446744073709551616 / 2 ^ (k + 1) = H' at *
    generalize n % 18446744073709551616 / 2 ^ (k + 1) = L' at *
    generalize n / 18446744073709551616 = H2 at *
    generalize n % 18446744073709551616 = L2 at *
    have m1 := mul2 H' (by omega)
    have m2 := mul2 L' (by omega)
    cases c1 : n.testBit (k + 64) <;> cases c2 : n.testBit k <;> rw [c1] at d1 b2 <;> rw [c2] at d2 b1 <;> simp only [Bool.false_eq_true, if_false, if_true, Nat.add_zero] at d1 d2
    · rw [d1] at m1; rw [d2] at m2
      simp -implicitDefEqProofs [w1, w2, z1, g1, g2, g3, b1, b2, m1, m2, ih, -Int.natCast_ediv, -Int.natCast_emod, -Int.natCast_mul]
    · rw [d1] at m1
      have a2 := add1 (2 * L') (by omega)
      rw [d2] at a2
      simp -implicitDefEqProofs [w1, w2, z1, g1, g2, g3, b1, b2, m1, m2, a2, ih, -Int.natCast_ediv, -Int.natCast_emod, -Int.natCast_mul]
    · rw [d2] at m2
      have a1 := add1 (2 * H') (by omega)
      rw [d1] at a1
      simp -implicitDefEqProofs [w1, w2, z1, g1, g2, g3, b1, b2, m1, m2, a1, ih, -Int.natCast_ediv, -Int.natCast_emod, -Int.natCast_mul]
    · have a1 := add1 (2 * H') (by omega)
      have a2 := add1 (2 * L') (by omega)
      rw [d1] at a1; rw [d2] at a2
      simp -implicitDefEqProofs [w1, w2, z1, g1, g2, g3, b1, b2, m1, m2, a1, a2, ih, -Int.natCast_ediv, -Int.natCast_emod, -Int.natCast_mul]
theorem halves772 (n : Nat) (hn : n < 340282366920938463463374607431768211456) : callRO vp 772 [.agg (rowV n.testBit)] = some (.tup [.int .u64 ((n / 18446744073709551616 : Nat) : Int),.int .u64 ((n % 18446744073709551616 : Nat) : Int)]) := by
 have hl := loop772 n hn 64 (by omega)
 have e1 : n / 18446744073709551616 / 2 ^ 64 = 0 := Nat.div_eq_of_lt (hi_lt hn)
 have e2 : n % 18446744073709551616 / 2 ^ 64 = 0 := Nat.div_eq_of_lt (Nat.mod_lt _ (by decide))
 rw [e1,e2,show ((64 : Nat) : Int) - 1 = 63 from rfl] at hl
 simp only [Int.natCast_zero] at hl
 rw [callRO_K fn772]
 generalize n / 18446744073709551616 = H at *
 generalize n % 18446744073709551616 = L at *
 simp -implicitDefEqProofs [hl]
theorem loop787 (n w : Nat) (t : Tag) (hw : w ≤ 128) : ∀ (j k : Nat), k + j = w →
    (orc vp).loop 0 [0, 2, 3, 4] L787_0 [(0, .sl 1 ((bitsL n w).map bv) t), (2, .ptr 0 1 0 0), (3, .ptr 1 1 0 0), (4, .int .i64 k)] [.arr [.agg [.int .i64 0, .int .u64 0, .int .u64 0]], .arr [.agg (rowV fun i => decide (i < k) && n.testBit i)]] =
      some (.brk 0, [(0, .sl 1 ((bitsL n w).map bv) t), (2, .ptr 0 1 0 0), (3, .ptr 1 1 0 0), (4, .int .i64 w), (14, .bool false)], [.arr [.agg [.int .i64 0, .int .u64 0, .int .u64 0]], .arr [.agg (rowV fun i => decide (i < w) && n.testBit i)]]) := by
  intro j
  induction j with
  | zero =>
    intro k hk
    obtain rfl : k = w := by omega
    rw [lp787_0]
    simp -implicitDefEqProofs [l787_0]
  | succ j ih =>
    intro k hk
    have h1 : (k : Int) < w := by omega
    have h2 : (k : Int) < 128 := by omega
    have w1 : IntKind.i64.wrap ((k : Int) + 1) = (k : Int) + 1 := wrap64 (by omega) (by omega)
    have ih := ih (k + 1) (by omega)
    have p1 : ((k + 1 : Nat) : Int) = (k : Int) + 1 := by omega
    rw [p1] at ih
    have hg := bitsL_get n (show k < w by omega)
    have l1 : k < 128 := by omega
    have s1 : (rowV fun i => decide (i < k) && n.testBit i).set k (.bool (n.testBit k)) = rowV fun i => decide (i < k + 1) && n.testBit i := rowV_set _ _ fun i hi => by
      by_cases e : i = k
      · subst e; simp
      · rw [if_neg e]; congr 1; rw [decide_eq_decide]; omega
    have hi : iaddrV 1 (.sl 1 ((bitsL n w).map bv) t) (.int .i64 k) = some (.eptr (.bool (n.testBit k)) 0 t) := by
      rw [iaddr_map, getI_nat, hg]; rfl
    have h3 : k < w := by omega
    rw [lp787_0]
    simp -implicitDefEqProofs [h1, h2, h3, w1, hi, l1, s1, ih, -iaddr_map]
theorem of787 (n w : Nat) (t : Tag) (hw : w ≤ 128) (hn : n < 2 ^ w) (W : I64) (hW : W.n = w) : callRO vp 787 [.sl 1 ((bitsL n w).map bv) t] = some (Vec.of W n).v := by
 have hl := loop787 n w t hw w 0 (by omega)
 have e : (rowV fun i => decide (i < 0) && n.testBit i) = rowV fun _ => false := rowV_congr fun i _ => by simp
 have e2 : (rowV fun i => decide (i < w) && n.testBit i) = rowV n.testBit := rowV_congr fun i _ => by
  by_cases h : i < w
  ·simp [h]
  ·rw [Nat.testBit_lt_two_pow (Nat.lt_of_lt_of_le hn (Nat.pow_le_pow_right (by decide) (by omega)))]; simp
 have hn2 : n < 340282366920938463463374607431768211456 := Nat.lt_of_lt_of_le hn (Nat.pow_le_pow_right (by decide) hw : 2 ^ w ≤ 2 ^ 128)
 rw [e,e2] at hl
 simp only [Int.natCast_zero] at hl
 have hh := halves772 n hn2
 have hv := Vec.of_v W n hn2
 rw [hW] at hv
 rw [← hv]
 rw [callRO_K fn787]
 generalize n / 18446744073709551616 = H at *
 generalize n % 18446744073709551616 = L at *
 simp -implicitDefEqProofs [row0,hl,hh,pureOp,fillV]
end Go.VE.Un
