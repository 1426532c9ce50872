/-
  No cell of these rows narrows 'for every input' (looked for: loops, veiled, ifaces, maps, wideKeys, modest, calm, conditions, laid).
  DERIVED. THE GIVEN ROWS OF THIS SEAT. 4 by the template 'for every input the law returns true; each argument reads behind the call as it read before'; 0 by the template 'total and deterministic' (their statements: YtgkdconajdjkgaaGreatTotals.lean).
  GIVEN WITH THE SEED: the statements are not yours to turn. If you find one false, say at which input.
  Laid BY PROGRAM, IN A SANDBOX (cutbox-rows.mjs): the forced cells as the released guide's own fill.sh prints them over the translation a54387b462e1ae60… (all of the seat's roots in one cut). By AI agents, Wed Nov 11 2026. No macro, syntax, notation, axiom, sorry.
-/
import Derived.Test.YtgkdconajdjkgaaGreatChecked
import GoSem.Claim
import GoSem.ClaimJoined
import GoSem.ClaimMapViews
import Derived.JoinedTies
import Derived.KernelRfl
namespace Go.Proofs.YtgkdconajdjkgaaGreat
/- THE CELL 'sum', in the pinned program and in every row, IS THE sha256 OF THE DUMP (.gsa) THAT YtgkdconajdjkgaaGreatProg.lean LOADS. Nothing in Lean hashes anything: it is a label: what it is worth is what the hold of that sum in a sandbox is worth. -/
noncomputable def Tryz.pinned : Pinned := { name := "ytgkdconajdjkgaagreat", sum := "a54387b462e1ae6004d785fcad0fa6176b065946c82f032e82f6397751121c5c", checked := Tryz.checked }
namespace Rows
def none {H : Type} : Left H := { results := [], args := [] }

/-- 'shunterlaw10.ImageWidths': WHATEVER THE INPUT: true; the input reads as it did. -/
def imageWidthsSpec : ChangeSpec := { name := "imageWidths", fn := fun _ => fun
  | [d1, d2, d3] => { results := [.lit (.bool true)], args := [d1, d2, d3] }
  | _ => none }
def imageWidthsRow : OpenClaim := { program := "ytgkdconajdjkgaagreat", sum := "a54387b462e1ae6004d785fcad0fa6176b065946c82f032e82f6397751121c5c", func := "shunter/shunterlaw10.ImageWidths", spec := "imageWidths", inPlace := ["internal/bytealg.IndexByteString", "internal/bytealg.IndexString", "internal/abi.NoEscape", "math/bits.Sub64"], unfollowed := true, recurses := true, named := ["internal/bytealg.MaxLen"], apart := false }
def ImageWidthsSaid : Prop := imageWidthsRow.holds Tryz.pinned (OpenSpec.ofChange imageWidthsSpec)

/-- ITS FALSE NEIGHBOUR: 'it returns false'. Refute it at one input. -/
def imageWidthsWrong : ChangeSpec := { name := "imageWidths", fn := fun _ => fun
  | [d1, d2, d3] => { results := [.lit (.bool false)], args := [d1, d2, d3] }
  | _ => none }
def ImageWidthsWrongFalsely : Prop := imageWidthsRow.holds Tryz.pinned (OpenSpec.ofChange imageWidthsWrong)

/-- 'shunterlaw10.ImageRefers': WHATEVER THE INPUT: true; the input reads as it did. -/
def imageRefersSpec : ChangeSpec := { name := "imageRefers", fn := fun _ => fun
  | [d] => { results := [.lit (.bool true)], args := [d] }
  | _ => none }
def imageRefersRow : OpenClaim := { program := "ytgkdconajdjkgaagreat", sum := "a54387b462e1ae6004d785fcad0fa6176b065946c82f032e82f6397751121c5c", func := "shunter/shunterlaw10.ImageRefers", spec := "imageRefers", inPlace := ["internal/bytealg.IndexByteString", "internal/bytealg.IndexString", "internal/abi.NoEscape", "math/bits.Sub64"], unfollowed := true, recurses := true, named := ["internal/bytealg.MaxLen"], apart := false }
def ImageRefersSaid : Prop := imageRefersRow.holds Tryz.pinned (OpenSpec.ofChange imageRefersSpec)

/-- ITS FALSE NEIGHBOUR: 'it returns false'. Refute it at one input. -/
def imageRefersWrong : ChangeSpec := { name := "imageRefers", fn := fun _ => fun
  | [d] => { results := [.lit (.bool false)], args := [d] }
  | _ => none }
def ImageRefersWrongFalsely : Prop := imageRefersRow.holds Tryz.pinned (OpenSpec.ofChange imageRefersWrong)

/-- 'shunterlaw10.ImageChecks': WHATEVER THE INPUT: true; the input reads as it did. -/
def imageChecksSpec : ChangeSpec := { name := "imageChecks", fn := fun _ => fun
  | [d] => { results := [.lit (.bool true)], args := [d] }
  | _ => none }
def imageChecksRow : OpenClaim := { program := "ytgkdconajdjkgaagreat", sum := "a54387b462e1ae6004d785fcad0fa6176b065946c82f032e82f6397751121c5c", func := "shunter/shunterlaw10.ImageChecks", spec := "imageChecks", inPlace := ["internal/bytealg.IndexByteString", "internal/bytealg.IndexString", "internal/abi.NoEscape", "math/bits.Sub64"], unfollowed := true, recurses := true, named := ["internal/bytealg.MaxLen"], apart := false }
def ImageChecksSaid : Prop := imageChecksRow.holds Tryz.pinned (OpenSpec.ofChange imageChecksSpec)

/-- ITS FALSE NEIGHBOUR: 'it returns false'. Refute it at one input. -/
def imageChecksWrong : ChangeSpec := { name := "imageChecks", fn := fun _ => fun
  | [d] => { results := [.lit (.bool false)], args := [d] }
  | _ => none }
def ImageChecksWrongFalsely : Prop := imageChecksRow.holds Tryz.pinned (OpenSpec.ofChange imageChecksWrong)

/-- 'shunterlaw10.ImageCopies': WHATEVER THE INPUT: true; the input reads as it did. -/
def imageCopiesSpec : ChangeSpec := { name := "imageCopies", fn := fun _ => fun
  | [d1, d2] => { results := [.lit (.bool true)], args := [d1, d2] }
  | _ => none }
def imageCopiesRow : OpenClaim := { program := "ytgkdconajdjkgaagreat", sum := "a54387b462e1ae6004d785fcad0fa6176b065946c82f032e82f6397751121c5c", func := "shunter/shunterlaw10.ImageCopies", spec := "imageCopies", inPlace := ["internal/bytealg.IndexByteString", "internal/bytealg.IndexString", "internal/abi.NoEscape", "math/bits.Sub64"], unfollowed := true, recurses := true, named := ["internal/bytealg.MaxLen"], apart := false }
def ImageCopiesSaid : Prop := imageCopiesRow.holds Tryz.pinned (OpenSpec.ofChange imageCopiesSpec)

/-- ITS FALSE NEIGHBOUR: 'it returns false'. Refute it at one input. -/
def imageCopiesWrong : ChangeSpec := { name := "imageCopies", fn := fun _ => fun
  | [d1, d2] => { results := [.lit (.bool false)], args := [d1, d2] }
  | _ => none }
def ImageCopiesWrongFalsely : Prop := imageCopiesRow.holds Tryz.pinned (OpenSpec.ofChange imageCopiesWrong)

/- THE SECOND FORM. 'bulk': how many values and letters a reading holds, each counted each time it is reached (what is shared counts as often as it is met; a slice's spare places count too). A statement '..UptoSaid' is the law's where the arguments, and the package variables that the reading takes, are together of bulk at most 1048576: NARROWER than '..Said'. Prove '..Said' where nothing that the law and all that it calls make is longer than what came in: it says more and counts as full. Else prove '..UptoSaid'. A law counts once. -/
mutual
def uptoBulk {H : Type} : DataW H → Nat
  | .lit (.string bytes) => bytes.length + 1
  | .lit _ => 1
  | .nil => 1
  | .ptr d => uptoBulk d + 1
  | .slice elems spare => uptoBulkAll elems + uptoBulkAll spare + 1
  | .agg parts => uptoBulkAll parts + 1
  | .iface _ d => uptoBulk d + 1
  | .map entries => uptoBulkEntries entries + 1
  | .held _ => 1
def uptoBulkAll {H : Type} : List (DataW H) → Nat
  | [] => 0
  | d :: r => uptoBulk d + uptoBulkAll r
def uptoBulkEntries {H : Type} : List (Lit × DataW H) → Nat
  | [] => 0
  | x :: r => uptoBulkEntry x + uptoBulkEntries r
def uptoBulkEntry {H : Type} : Lit × DataW H → Nat
  | (.string bytes, d) => bytes.length + uptoBulk d + 1
  | (_, d) => uptoBulk d + 1
 end
def uptoSmall : (H : Type) → List (DataW H) → Bool := fun _ ds => decide (uptoBulkAll ds ≤ 1048576)
def OpenSpec.upto (s : _root_.Go.ChangeSpec) : _root_.Go.OpenSpec := { _root_.Go.OpenSpec.ofChange s with cond := some uptoSmall }

/-- 'shunterlaw10.ImageWidths', WHERE WHAT IT READS IS OF BULK AT MOST 1048576: true; the input reads as it did. -/
def imageWidthsUptoRow : OpenClaim := { program := "ytgkdconajdjkgaagreat", sum := "a54387b462e1ae6004d785fcad0fa6176b065946c82f032e82f6397751121c5c", func := "shunter/shunterlaw10.ImageWidths", spec := "imageWidths", inPlace := ["internal/bytealg.IndexByteString", "internal/bytealg.IndexString", "internal/abi.NoEscape", "math/bits.Sub64"], unfollowed := true, recurses := true, named := ["internal/bytealg.MaxLen"], apart := false, narrowed := true }
def ImageWidthsUptoSaid : Prop := imageWidthsUptoRow.holds Tryz.pinned (OpenSpec.upto imageWidthsSpec)

/-- 'shunterlaw10.ImageRefers', WHERE WHAT IT READS IS OF BULK AT MOST 1048576: true; the input reads as it did. -/
def imageRefersUptoRow : OpenClaim := { program := "ytgkdconajdjkgaagreat", sum := "a54387b462e1ae6004d785fcad0fa6176b065946c82f032e82f6397751121c5c", func := "shunter/shunterlaw10.ImageRefers", spec := "imageRefers", inPlace := ["internal/bytealg.IndexByteString", "internal/bytealg.IndexString", "internal/abi.NoEscape", "math/bits.Sub64"], unfollowed := true, recurses := true, named := ["internal/bytealg.MaxLen"], apart := false, narrowed := true }
def ImageRefersUptoSaid : Prop := imageRefersUptoRow.holds Tryz.pinned (OpenSpec.upto imageRefersSpec)

/-- 'shunterlaw10.ImageChecks', WHERE WHAT IT READS IS OF BULK AT MOST 1048576: true; the input reads as it did. -/
def imageChecksUptoRow : OpenClaim := { program := "ytgkdconajdjkgaagreat", sum := "a54387b462e1ae6004d785fcad0fa6176b065946c82f032e82f6397751121c5c", func := "shunter/shunterlaw10.ImageChecks", spec := "imageChecks", inPlace := ["internal/bytealg.IndexByteString", "internal/bytealg.IndexString", "internal/abi.NoEscape", "math/bits.Sub64"], unfollowed := true, recurses := true, named := ["internal/bytealg.MaxLen"], apart := false, narrowed := true }
def ImageChecksUptoSaid : Prop := imageChecksUptoRow.holds Tryz.pinned (OpenSpec.upto imageChecksSpec)

/-- 'shunterlaw10.ImageCopies', WHERE WHAT IT READS IS OF BULK AT MOST 1048576: true; the input reads as it did. -/
def imageCopiesUptoRow : OpenClaim := { program := "ytgkdconajdjkgaagreat", sum := "a54387b462e1ae6004d785fcad0fa6176b065946c82f032e82f6397751121c5c", func := "shunter/shunterlaw10.ImageCopies", spec := "imageCopies", inPlace := ["internal/bytealg.IndexByteString", "internal/bytealg.IndexString", "internal/abi.NoEscape", "math/bits.Sub64"], unfollowed := true, recurses := true, named := ["internal/bytealg.MaxLen"], apart := false, narrowed := true }
def ImageCopiesUptoSaid : Prop := imageCopiesUptoRow.holds Tryz.pinned (OpenSpec.upto imageCopiesSpec)

end Rows
end Go.Proofs.YtgkdconajdjkgaaGreat
