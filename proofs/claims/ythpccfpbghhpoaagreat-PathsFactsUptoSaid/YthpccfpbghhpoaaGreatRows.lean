/-
  No cell of these rows narrows 'for every input' (looked for: loops, veiled, ifaces, maps, wideKeys, modest, calm, conditions, laid).
  DERIVED. THE GIVEN ROWS OF THIS SEAT. 4 by the template 'for every input the law returns true; each argument reads behind the call as it read before'; 0 by the template 'total and deterministic' (their statements: YthpccfpbghhpoaaGreatTotals.lean).
  GIVEN WITH THE SEED: the statements are not yours to turn. If you find one false, say at which input.
  Laid BY PROGRAM, IN A SANDBOX (cutbox-rows.mjs): the forced cells as the released guide's own fill.sh prints them over the translation dd03c87448aef9c1… (all of the seat's roots in one cut). By AI agents, Wed Nov 11 2026. No macro, syntax, notation, axiom, sorry.
-/
import Derived.Test.YthpccfpbghhpoaaGreatChecked
import GoSem.Claim
import GoSem.ClaimJoined
import GoSem.ClaimMapViews
import Derived.JoinedTies
import Derived.KernelRfl
namespace Go.Proofs.YthpccfpbghhpoaaGreat
/- THE CELL 'sum', in the pinned program and in every row, IS THE sha256 OF THE DUMP (.gsa) THAT YthpccfpbghhpoaaGreatProg.lean LOADS. Nothing in Lean hashes anything: it is a label: what it is worth is what the hold of that sum in a sandbox is worth. -/
noncomputable def Tryz.pinned : Pinned := { name := "ythpccfpbghhpoaagreat", sum := "dd03c87448aef9c14cd373db29e112516b53a179fa80391be71d17621c60ae35", checked := Tryz.checked }
namespace Rows
def none {H : Type} : Left H := { results := [], args := [] }

/-- 'shunterlaw17.PathsRefuses': WHATEVER THE INPUT: true; the input reads as it did. -/
def pathsRefusesSpec : ChangeSpec := { name := "pathsRefuses", fn := fun _ => fun
  | [d1, d2] => { results := [.lit (.bool true)], args := [d1, d2] }
  | _ => none }
def pathsRefusesRow : OpenClaim := { program := "ythpccfpbghhpoaagreat", sum := "dd03c87448aef9c14cd373db29e112516b53a179fa80391be71d17621c60ae35", func := "shunter/shunterlaw17.PathsRefuses", spec := "pathsRefuses", inPlace := ["internal/bytealg.IndexByteString", "internal/bytealg.IndexString", "internal/abi.NoEscape", "math/bits.Sub64"], unfollowed := true, recurses := true, named := ["internal/bytealg.MaxLen"], apart := false }
def PathsRefusesSaid : Prop := pathsRefusesRow.holds Tryz.pinned (OpenSpec.ofChange pathsRefusesSpec)

/-- ITS FALSE NEIGHBOUR: 'it returns false'. Refute it at one input. -/
def pathsRefusesWrong : ChangeSpec := { name := "pathsRefuses", fn := fun _ => fun
  | [d1, d2] => { results := [.lit (.bool false)], args := [d1, d2] }
  | _ => none }
def PathsRefusesWrongFalsely : Prop := pathsRefusesRow.holds Tryz.pinned (OpenSpec.ofChange pathsRefusesWrong)

/-- 'shunterlaw17.PathsLess': WHATEVER THE INPUT: true; the input reads as it did. -/
def pathsLessSpec : ChangeSpec := { name := "pathsLess", fn := fun _ => fun
  | [d1, d2, d3] => { results := [.lit (.bool true)], args := [d1, d2, d3] }
  | _ => none }
def pathsLessRow : OpenClaim := { program := "ythpccfpbghhpoaagreat", sum := "dd03c87448aef9c14cd373db29e112516b53a179fa80391be71d17621c60ae35", func := "shunter/shunterlaw17.PathsLess", spec := "pathsLess", inPlace := ["internal/bytealg.IndexByteString", "internal/bytealg.IndexString", "internal/abi.NoEscape", "math/bits.Sub64"], unfollowed := true, recurses := true, named := ["internal/bytealg.MaxLen"], apart := false }
def PathsLessSaid : Prop := pathsLessRow.holds Tryz.pinned (OpenSpec.ofChange pathsLessSpec)

/-- ITS FALSE NEIGHBOUR: 'it returns false'. Refute it at one input. -/
def pathsLessWrong : ChangeSpec := { name := "pathsLess", fn := fun _ => fun
  | [d1, d2, d3] => { results := [.lit (.bool false)], args := [d1, d2, d3] }
  | _ => none }
def PathsLessWrongFalsely : Prop := pathsLessRow.holds Tryz.pinned (OpenSpec.ofChange pathsLessWrong)

/-- 'shunterlaw17.PathsFacts': WHATEVER THE INPUT: true; the input reads as it did. -/
def pathsFactsSpec : ChangeSpec := { name := "pathsFacts", fn := fun _ => fun
  | [d1, d2, d3] => { results := [.lit (.bool true)], args := [d1, d2, d3] }
  | _ => none }
def pathsFactsRow : OpenClaim := { program := "ythpccfpbghhpoaagreat", sum := "dd03c87448aef9c14cd373db29e112516b53a179fa80391be71d17621c60ae35", func := "shunter/shunterlaw17.PathsFacts", spec := "pathsFacts", inPlace := ["internal/bytealg.IndexByteString", "internal/bytealg.IndexString", "internal/abi.NoEscape", "math/bits.Sub64"], unfollowed := true, recurses := true, named := ["internal/bytealg.MaxLen"], apart := false }
def PathsFactsSaid : Prop := pathsFactsRow.holds Tryz.pinned (OpenSpec.ofChange pathsFactsSpec)

/-- ITS FALSE NEIGHBOUR: 'it returns false'. Refute it at one input. -/
def pathsFactsWrong : ChangeSpec := { name := "pathsFacts", fn := fun _ => fun
  | [d1, d2, d3] => { results := [.lit (.bool false)], args := [d1, d2, d3] }
  | _ => none }
def PathsFactsWrongFalsely : Prop := pathsFactsRow.holds Tryz.pinned (OpenSpec.ofChange pathsFactsWrong)

/-- 'shunterlaw17.PathsSound': WHATEVER THE INPUT: true; the input reads as it did. -/
def pathsSoundSpec : ChangeSpec := { name := "pathsSound", fn := fun _ => fun
  | [d1, d2, d3] => { results := [.lit (.bool true)], args := [d1, d2, d3] }
  | _ => none }
def pathsSoundRow : OpenClaim := { program := "ythpccfpbghhpoaagreat", sum := "dd03c87448aef9c14cd373db29e112516b53a179fa80391be71d17621c60ae35", func := "shunter/shunterlaw17.PathsSound", spec := "pathsSound", inPlace := ["internal/bytealg.IndexByteString", "internal/bytealg.IndexString", "internal/abi.NoEscape", "math/bits.Sub64"], unfollowed := true, recurses := true, named := ["internal/bytealg.MaxLen"], apart := false }
def PathsSoundSaid : Prop := pathsSoundRow.holds Tryz.pinned (OpenSpec.ofChange pathsSoundSpec)

/-- ITS FALSE NEIGHBOUR: 'it returns false'. Refute it at one input. -/
def pathsSoundWrong : ChangeSpec := { name := "pathsSound", fn := fun _ => fun
  | [d1, d2, d3] => { results := [.lit (.bool false)], args := [d1, d2, d3] }
  | _ => none }
def PathsSoundWrongFalsely : Prop := pathsSoundRow.holds Tryz.pinned (OpenSpec.ofChange pathsSoundWrong)

/- THE SECOND FORM. 'bulk': how many values and letters a reading holds, each counted each time it is reached (what is shared counts as often as it is met; a slice's spare places count too). A statement '..UptoSaid' is the law's where the arguments, and the package variables that the reading takes, are together of bulk at most 1048576: NARROWER than '..Said'. Prove '..Said' where nothing that the law and all that it calls make is longer than what came in: it says more and counts as full. Else prove '..UptoSaid'. A law counts once. -/
mutual
def uptoBulk {H : Type} : DataW H → Nat
  | .lit (.string bytes) => bytes.length + 1
  | .lit _ => 1
  | .nil => 1
  | .ptr d => uptoBulk d + 1
  | .slice elems spare => uptoBulkAll elems + uptoBulkAll spare + 1
  | .agg parts => uptoBulkAll parts + 1
  | .iface _ d => uptoBulk d + 1
  | .map entries => uptoBulkEntries entries + 1
  | .held _ => 1
def uptoBulkAll {H : Type} : List (DataW H) → Nat
  | [] => 0
  | d :: r => uptoBulk d + uptoBulkAll r
def uptoBulkEntries {H : Type} : List (Lit × DataW H) → Nat
  | [] => 0
  | x :: r => uptoBulkEntry x + uptoBulkEntries r
def uptoBulkEntry {H : Type} : Lit × DataW H → Nat
  | (.string bytes, d) => bytes.length + uptoBulk d + 1
  | (_, d) => uptoBulk d + 1
 end
def uptoSmall : (H : Type) → List (DataW H) → Bool := fun _ ds => decide (uptoBulkAll ds ≤ 1048576)
def OpenSpec.upto (s : _root_.Go.ChangeSpec) : _root_.Go.OpenSpec := { _root_.Go.OpenSpec.ofChange s with cond := some uptoSmall }

/-- 'shunterlaw17.PathsRefuses', WHERE WHAT IT READS IS OF BULK AT MOST 1048576: true; the input reads as it did. -/
def pathsRefusesUptoRow : OpenClaim := { program := "ythpccfpbghhpoaagreat", sum := "dd03c87448aef9c14cd373db29e112516b53a179fa80391be71d17621c60ae35", func := "shunter/shunterlaw17.PathsRefuses", spec := "pathsRefuses", inPlace := ["internal/bytealg.IndexByteString", "internal/bytealg.IndexString", "internal/abi.NoEscape", "math/bits.Sub64"], unfollowed := true, recurses := true, named := ["internal/bytealg.MaxLen"], apart := false, narrowed := true }
def PathsRefusesUptoSaid : Prop := pathsRefusesUptoRow.holds Tryz.pinned (OpenSpec.upto pathsRefusesSpec)

/-- 'shunterlaw17.PathsLess', WHERE WHAT IT READS IS OF BULK AT MOST 1048576: true; the input reads as it did. -/
def pathsLessUptoRow : OpenClaim := { program := "ythpccfpbghhpoaagreat", sum := "dd03c87448aef9c14cd373db29e112516b53a179fa80391be71d17621c60ae35", func := "shunter/shunterlaw17.PathsLess", spec := "pathsLess", inPlace := ["internal/bytealg.IndexByteString", "internal/bytealg.IndexString", "internal/abi.NoEscape", "math/bits.Sub64"], unfollowed := true, recurses := true, named := ["internal/bytealg.MaxLen"], apart := false, narrowed := true }
def PathsLessUptoSaid : Prop := pathsLessUptoRow.holds Tryz.pinned (OpenSpec.upto pathsLessSpec)

/-- 'shunterlaw17.PathsFacts', WHERE WHAT IT READS IS OF BULK AT MOST 1048576: true; the input reads as it did. -/
def pathsFactsUptoRow : OpenClaim := { program := "ythpccfpbghhpoaagreat", sum := "dd03c87448aef9c14cd373db29e112516b53a179fa80391be71d17621c60ae35", func := "shunter/shunterlaw17.PathsFacts", spec := "pathsFacts", inPlace := ["internal/bytealg.IndexByteString", "internal/bytealg.IndexString", "internal/abi.NoEscape", "math/bits.Sub64"], unfollowed := true, recurses := true, named := ["internal/bytealg.MaxLen"], apart := false, narrowed := true }
def PathsFactsUptoSaid : Prop := pathsFactsUptoRow.holds Tryz.pinned (OpenSpec.upto pathsFactsSpec)

/-- 'shunterlaw17.PathsSound', WHERE WHAT IT READS IS OF BULK AT MOST 1048576: true; the input reads as it did. -/
def pathsSoundUptoRow : OpenClaim := { program := "ythpccfpbghhpoaagreat", sum := "dd03c87448aef9c14cd373db29e112516b53a179fa80391be71d17621c60ae35", func := "shunter/shunterlaw17.PathsSound", spec := "pathsSound", inPlace := ["internal/bytealg.IndexByteString", "internal/bytealg.IndexString", "internal/abi.NoEscape", "math/bits.Sub64"], unfollowed := true, recurses := true, named := ["internal/bytealg.MaxLen"], apart := false, narrowed := true }
def PathsSoundUptoSaid : Prop := pathsSoundUptoRow.holds Tryz.pinned (OpenSpec.upto pathsSoundSpec)

end Rows
end Go.Proofs.YthpccfpbghhpoaaGreat
