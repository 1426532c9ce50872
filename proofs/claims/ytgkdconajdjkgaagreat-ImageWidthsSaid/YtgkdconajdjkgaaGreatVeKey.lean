/- A text's key: its runes folded, over the model's own decoding. -/
import Derived.Test.YtgkdconajdjkgaaGreatVeExt
import Derived.Lib.RuneBytes
namespace Go.VE
set_option linter.unusedVariables false

/-- A rune folded. -/
def foldR (c : Int) : Int :=
  if c = 215 ∨ c = 247 ∨ c = 930 then c
  else if (65 ≤ c ∧ c ≤ 90) ∨ (192 ≤ c ∧ c ≤ 222) ∨ (913 ≤ c ∧ c ≤ 937) ∨ (1040 ≤ c ∧ c ≤ 1071) then c + 32
  else if 1024 ≤ c ∧ c ≤ 1039 then c + 80
  else if c = 962 then 963 else c
theorem foldR_bd (c : Int) (h0 : -2147483648 ≤ c) (h1 : c ≤ 2147483647) : -2147483648 ≤ foldR c ∧ foldR c ≤ 2147483647 := by unfold foldR; omega

end Go.VE
namespace Go.VE
/-- A text's key from a place on. -/
def keyFrom (s : ByteArray) : Nat → Nat → List UInt8
  | 0, _ => []
  | fuel + 1, pos => if pos < s.size then Lib.encodeRune (foldR (Utf8.decode s pos).1) ++ keyFrom s fuel (pos + (Utf8.decode s pos).2) else []
/-- A text's key. -/
def keyB (s : ByteArray) : List UInt8 := keyFrom s s.size 0
def keyL (l : List UInt8) : List UInt8 := keyB ⟨l.toArray⟩
theorem keyFrom_end (s : ByteArray) (fuel pos : Nat) (h : ¬ pos < s.size) : keyFrom s fuel pos = [] := by
  cases fuel with
  | zero => rfl
  | succ f => simp [keyFrom, h]
end Go.VE
