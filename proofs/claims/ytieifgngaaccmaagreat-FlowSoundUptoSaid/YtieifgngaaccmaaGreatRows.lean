/-
  No cell of these rows narrows 'for every input' (looked for: loops, veiled, ifaces, maps, wideKeys, modest, calm, conditions, laid).
  DERIVED. THE GIVEN ROWS OF THIS SEAT. 4 by the template 'for every input the law returns true; each argument reads behind the call as it read before'; 0 by the template 'total and deterministic' (their statements: YtieifgngaaccmaaGreatTotals.lean).
  GIVEN WITH THE SEED: the statements are not yours to turn. If you find one false, say at which input.
  Laid BY PROGRAM, IN A SANDBOX (cutbox-rows.mjs): the forced cells as the released guide's own fill.sh prints them over the translation 7042cbff5910ec5b… (all of the seat's roots in one cut). By AI agents, Wed Nov 11 2026. No macro, syntax, notation, axiom, sorry.
-/
import Derived.Test.YtieifgngaaccmaaGreatChecked
import GoSem.Claim
import GoSem.ClaimJoined
import GoSem.ClaimMapViews
import Derived.JoinedTies
import Derived.KernelRfl
namespace Go.Proofs.YtieifgngaaccmaaGreat
/- THE CELL 'sum', in the pinned program and in every row, IS THE sha256 OF THE DUMP (.gsa) THAT YtieifgngaaccmaaGreatProg.lean LOADS. Nothing in Lean hashes anything: it is a label: what it is worth is what the hold of that sum in a sandbox is worth. -/
noncomputable def Tryz.pinned : Pinned := { name := "ytieifgngaaccmaagreat", sum := "7042cbff5910ec5b9ee0fa1a75c0a9ea35e060cccb21d3404912f63935dea600", checked := Tryz.checked }
namespace Rows
def none {H : Type} : Left H := { results := [], args := [] }

/-- 'shunterlaw15.FlowCodes': WHATEVER THE INPUT: true; the input reads as it did. -/
def flowCodesSpec : ChangeSpec := { name := "flowCodes", fn := fun _ => fun
  | [d1, d2, d3] => { results := [.lit (.bool true)], args := [d1, d2, d3] }
  | _ => none }
def flowCodesRow : OpenClaim := { program := "ytieifgngaaccmaagreat", sum := "7042cbff5910ec5b9ee0fa1a75c0a9ea35e060cccb21d3404912f63935dea600", func := "shunter/shunterlaw15.FlowCodes", spec := "flowCodes", inPlace := ["internal/bytealg.IndexByteString", "internal/bytealg.IndexString", "internal/abi.NoEscape", "math/bits.Sub64"], unfollowed := true, recurses := true, named := ["internal/bytealg.MaxLen"], apart := false }
def FlowCodesSaid : Prop := flowCodesRow.holds Tryz.pinned (OpenSpec.ofChange flowCodesSpec)

/-- ITS FALSE NEIGHBOUR: 'it returns false'. Refute it at one input. -/
def flowCodesWrong : ChangeSpec := { name := "flowCodes", fn := fun _ => fun
  | [d1, d2, d3] => { results := [.lit (.bool false)], args := [d1, d2, d3] }
  | _ => none }
def FlowCodesWrongFalsely : Prop := flowCodesRow.holds Tryz.pinned (OpenSpec.ofChange flowCodesWrong)

/-- 'shunterlaw15.FlowLess': WHATEVER THE INPUT: true; the input reads as it did. -/
def flowLessSpec : ChangeSpec := { name := "flowLess", fn := fun _ => fun
  | [d1, d2, d3] => { results := [.lit (.bool true)], args := [d1, d2, d3] }
  | _ => none }
def flowLessRow : OpenClaim := { program := "ytieifgngaaccmaagreat", sum := "7042cbff5910ec5b9ee0fa1a75c0a9ea35e060cccb21d3404912f63935dea600", func := "shunter/shunterlaw15.FlowLess", spec := "flowLess", inPlace := ["internal/bytealg.IndexByteString", "internal/bytealg.IndexString", "internal/abi.NoEscape", "math/bits.Sub64"], unfollowed := true, recurses := true, named := ["internal/bytealg.MaxLen"], apart := false }
def FlowLessSaid : Prop := flowLessRow.holds Tryz.pinned (OpenSpec.ofChange flowLessSpec)

/-- ITS FALSE NEIGHBOUR: 'it returns false'. Refute it at one input. -/
def flowLessWrong : ChangeSpec := { name := "flowLess", fn := fun _ => fun
  | [d1, d2, d3] => { results := [.lit (.bool false)], args := [d1, d2, d3] }
  | _ => none }
def FlowLessWrongFalsely : Prop := flowLessRow.holds Tryz.pinned (OpenSpec.ofChange flowLessWrong)

/-- 'shunterlaw15.FlowSound': WHATEVER THE INPUT: true; the input reads as it did. -/
def flowSoundSpec : ChangeSpec := { name := "flowSound", fn := fun _ => fun
  | [d1, d2, d3] => { results := [.lit (.bool true)], args := [d1, d2, d3] }
  | _ => none }
def flowSoundRow : OpenClaim := { program := "ytieifgngaaccmaagreat", sum := "7042cbff5910ec5b9ee0fa1a75c0a9ea35e060cccb21d3404912f63935dea600", func := "shunter/shunterlaw15.FlowSound", spec := "flowSound", inPlace := ["internal/bytealg.IndexByteString", "internal/bytealg.IndexString", "internal/abi.NoEscape", "math/bits.Sub64"], unfollowed := true, recurses := true, named := ["internal/bytealg.MaxLen"], apart := false }
def FlowSoundSaid : Prop := flowSoundRow.holds Tryz.pinned (OpenSpec.ofChange flowSoundSpec)

/-- ITS FALSE NEIGHBOUR: 'it returns false'. Refute it at one input. -/
def flowSoundWrong : ChangeSpec := { name := "flowSound", fn := fun _ => fun
  | [d1, d2, d3] => { results := [.lit (.bool false)], args := [d1, d2, d3] }
  | _ => none }
def FlowSoundWrongFalsely : Prop := flowSoundRow.holds Tryz.pinned (OpenSpec.ofChange flowSoundWrong)

/-- 'shunterlaw15.FlowSteps': WHATEVER THE INPUT: true; the input reads as it did. -/
def flowStepsSpec : ChangeSpec := { name := "flowSteps", fn := fun _ => fun
  | [d1, d2, d3] => { results := [.lit (.bool true)], args := [d1, d2, d3] }
  | _ => none }
def flowStepsRow : OpenClaim := { program := "ytieifgngaaccmaagreat", sum := "7042cbff5910ec5b9ee0fa1a75c0a9ea35e060cccb21d3404912f63935dea600", func := "shunter/shunterlaw15.FlowSteps", spec := "flowSteps", inPlace := ["internal/bytealg.IndexByteString", "internal/bytealg.IndexString", "internal/abi.NoEscape", "math/bits.Sub64"], unfollowed := true, recurses := true, named := ["internal/bytealg.MaxLen"], apart := false }
def FlowStepsSaid : Prop := flowStepsRow.holds Tryz.pinned (OpenSpec.ofChange flowStepsSpec)

/-- ITS FALSE NEIGHBOUR: 'it returns false'. Refute it at one input. -/
def flowStepsWrong : ChangeSpec := { name := "flowSteps", fn := fun _ => fun
  | [d1, d2, d3] => { results := [.lit (.bool false)], args := [d1, d2, d3] }
  | _ => none }
def FlowStepsWrongFalsely : Prop := flowStepsRow.holds Tryz.pinned (OpenSpec.ofChange flowStepsWrong)

/- THE SECOND FORM. 'bulk': how many values and letters a reading holds, each counted each time it is reached (what is shared counts as often as it is met; a slice's spare places count too). A statement '..UptoSaid' is the law's where the arguments, and the package variables that the reading takes, are together of bulk at most 1048576: NARROWER than '..Said'. Prove '..Said' where nothing that the law and all that it calls make is longer than what came in: it says more and counts as full. Else prove '..UptoSaid'. A law counts once. -/
mutual
def uptoBulk {H : Type} : DataW H → Nat
  | .lit (.string bytes) => bytes.length + 1
  | .lit _ => 1
  | .nil => 1
  | .ptr d => uptoBulk d + 1
  | .slice elems spare => uptoBulkAll elems + uptoBulkAll spare + 1
  | .agg parts => uptoBulkAll parts + 1
  | .iface _ d => uptoBulk d + 1
  | .map entries => uptoBulkEntries entries + 1
  | .held _ => 1
def uptoBulkAll {H : Type} : List (DataW H) → Nat
  | [] => 0
  | d :: r => uptoBulk d + uptoBulkAll r
def uptoBulkEntries {H : Type} : List (Lit × DataW H) → Nat
  | [] => 0
  | x :: r => uptoBulkEntry x + uptoBulkEntries r
def uptoBulkEntry {H : Type} : Lit × DataW H → Nat
  | (.string bytes, d) => bytes.length + uptoBulk d + 1
  | (_, d) => uptoBulk d + 1
 end
def uptoSmall : (H : Type) → List (DataW H) → Bool := fun _ ds => decide (uptoBulkAll ds ≤ 1048576)
def OpenSpec.upto (s : _root_.Go.ChangeSpec) : _root_.Go.OpenSpec := { _root_.Go.OpenSpec.ofChange s with cond := some uptoSmall }

/-- 'shunterlaw15.FlowCodes', WHERE WHAT IT READS IS OF BULK AT MOST 1048576: true; the input reads as it did. -/
def flowCodesUptoRow : OpenClaim := { program := "ytieifgngaaccmaagreat", sum := "7042cbff5910ec5b9ee0fa1a75c0a9ea35e060cccb21d3404912f63935dea600", func := "shunter/shunterlaw15.FlowCodes", spec := "flowCodes", inPlace := ["internal/bytealg.IndexByteString", "internal/bytealg.IndexString", "internal/abi.NoEscape", "math/bits.Sub64"], unfollowed := true, recurses := true, named := ["internal/bytealg.MaxLen"], apart := false, narrowed := true }
def FlowCodesUptoSaid : Prop := flowCodesUptoRow.holds Tryz.pinned (OpenSpec.upto flowCodesSpec)

/-- 'shunterlaw15.FlowLess', WHERE WHAT IT READS IS OF BULK AT MOST 1048576: true; the input reads as it did. -/
def flowLessUptoRow : OpenClaim := { program := "ytieifgngaaccmaagreat", sum := "7042cbff5910ec5b9ee0fa1a75c0a9ea35e060cccb21d3404912f63935dea600", func := "shunter/shunterlaw15.FlowLess", spec := "flowLess", inPlace := ["internal/bytealg.IndexByteString", "internal/bytealg.IndexString", "internal/abi.NoEscape", "math/bits.Sub64"], unfollowed := true, recurses := true, named := ["internal/bytealg.MaxLen"], apart := false, narrowed := true }
def FlowLessUptoSaid : Prop := flowLessUptoRow.holds Tryz.pinned (OpenSpec.upto flowLessSpec)

/-- 'shunterlaw15.FlowSound', WHERE WHAT IT READS IS OF BULK AT MOST 1048576: true; the input reads as it did. -/
def flowSoundUptoRow : OpenClaim := { program := "ytieifgngaaccmaagreat", sum := "7042cbff5910ec5b9ee0fa1a75c0a9ea35e060cccb21d3404912f63935dea600", func := "shunter/shunterlaw15.FlowSound", spec := "flowSound", inPlace := ["internal/bytealg.IndexByteString", "internal/bytealg.IndexString", "internal/abi.NoEscape", "math/bits.Sub64"], unfollowed := true, recurses := true, named := ["internal/bytealg.MaxLen"], apart := false, narrowed := true }
def FlowSoundUptoSaid : Prop := flowSoundUptoRow.holds Tryz.pinned (OpenSpec.upto flowSoundSpec)

/-- 'shunterlaw15.FlowSteps', WHERE WHAT IT READS IS OF BULK AT MOST 1048576: true; the input reads as it did. -/
def flowStepsUptoRow : OpenClaim := { program := "ytieifgngaaccmaagreat", sum := "7042cbff5910ec5b9ee0fa1a75c0a9ea35e060cccb21d3404912f63935dea600", func := "shunter/shunterlaw15.FlowSteps", spec := "flowSteps", inPlace := ["internal/bytealg.IndexByteString", "internal/bytealg.IndexString", "internal/abi.NoEscape", "math/bits.Sub64"], unfollowed := true, recurses := true, named := ["internal/bytealg.MaxLen"], apart := false, narrowed := true }
def FlowStepsUptoSaid : Prop := flowStepsUptoRow.holds Tryz.pinned (OpenSpec.upto flowStepsSpec)

end Rows
end Go.Proofs.YtieifgngaaccmaaGreat
