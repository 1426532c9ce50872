/-
  No cell of these rows narrows 'for every input' (looked for: loops, veiled, ifaces, maps, wideKeys, modest, calm, conditions, laid).
  DERIVED. THE GIVEN ROWS OF THIS SEAT. 3 by the template 'for every input the law returns true; each argument reads behind the call as it read before'; 0 by the template 'total and deterministic' (their statements: YtlekfkibeafdiaaGreatTotals.lean).
  GIVEN WITH THE SEED: the statements are not yours to turn. If you find one false, say at which input.
  Laid BY PROGRAM, IN A SANDBOX (cutbox-rows.mjs): the forced cells as the released guide's own fill.sh prints them over the translation 418ddf37e2a400c2… (all of the seat's roots in one cut). By AI agents, Wed Nov 11 2026. No macro, syntax, notation, axiom, sorry.
-/
import Derived.Test.YtlekfkibeafdiaaGreatChecked
import GoSem.Claim
import GoSem.ClaimJoined
import GoSem.ClaimMapViews
import Derived.JoinedTies
import Derived.KernelRfl
namespace Go.Proofs.YtlekfkibeafdiaaGreat
/- THE CELL 'sum', in the pinned program and in every row, IS THE sha256 OF THE DUMP (.gsa) THAT YtlekfkibeafdiaaGreatProg.lean LOADS. Nothing in Lean hashes anything: it is a label: what it is worth is what the hold of that sum in a sandbox is worth. -/
noncomputable def Tryz.pinned : Pinned := { name := "ytlekfkibeafdiaagreat", sum := "418ddf37e2a400c2d83e1a71c29d980fc3815070502d38f95e79207f9d955211", checked := Tryz.checked }
namespace Rows
def none {H : Type} : Left H := { results := [], args := [] }

/-- 'shunterlaw16.GraphRefuses': WHATEVER THE INPUT: true; the input reads as it did. -/
def graphRefusesSpec : ChangeSpec := { name := "graphRefuses", fn := fun _ => fun
  | [d] => { results := [.lit (.bool true)], args := [d] }
  | _ => none }
def graphRefusesRow : OpenClaim := { program := "ytlekfkibeafdiaagreat", sum := "418ddf37e2a400c2d83e1a71c29d980fc3815070502d38f95e79207f9d955211", func := "shunter/shunterlaw16.GraphRefuses", spec := "graphRefuses", inPlace := ["internal/bytealg.IndexByteString", "internal/bytealg.IndexString", "internal/abi.NoEscape", "math/bits.Sub64"], unfollowed := true, recurses := true, named := ["internal/bytealg.MaxLen"], apart := false }
def GraphRefusesSaid : Prop := graphRefusesRow.holds Tryz.pinned (OpenSpec.ofChange graphRefusesSpec)

/-- ITS FALSE NEIGHBOUR: 'it returns false'. Refute it at one input. -/
def graphRefusesWrong : ChangeSpec := { name := "graphRefuses", fn := fun _ => fun
  | [d] => { results := [.lit (.bool false)], args := [d] }
  | _ => none }
def GraphRefusesWrongFalsely : Prop := graphRefusesRow.holds Tryz.pinned (OpenSpec.ofChange graphRefusesWrong)

/-- 'shunterlaw16.GraphFacts': WHATEVER THE INPUT: true; the input reads as it did. -/
def graphFactsSpec : ChangeSpec := { name := "graphFacts", fn := fun _ => fun
  | [d] => { results := [.lit (.bool true)], args := [d] }
  | _ => none }
def graphFactsRow : OpenClaim := { program := "ytlekfkibeafdiaagreat", sum := "418ddf37e2a400c2d83e1a71c29d980fc3815070502d38f95e79207f9d955211", func := "shunter/shunterlaw16.GraphFacts", spec := "graphFacts", inPlace := ["internal/bytealg.IndexByteString", "internal/bytealg.IndexString", "internal/abi.NoEscape", "math/bits.Sub64"], unfollowed := true, recurses := true, named := ["internal/bytealg.MaxLen"], apart := false }
def GraphFactsSaid : Prop := graphFactsRow.holds Tryz.pinned (OpenSpec.ofChange graphFactsSpec)

/-- ITS FALSE NEIGHBOUR: 'it returns false'. Refute it at one input. -/
def graphFactsWrong : ChangeSpec := { name := "graphFacts", fn := fun _ => fun
  | [d] => { results := [.lit (.bool false)], args := [d] }
  | _ => none }
def GraphFactsWrongFalsely : Prop := graphFactsRow.holds Tryz.pinned (OpenSpec.ofChange graphFactsWrong)

/-- 'shunterlaw16.GraphSound': WHATEVER THE INPUT: true; the input reads as it did. -/
def graphSoundSpec : ChangeSpec := { name := "graphSound", fn := fun _ => fun
  | [d1, d2] => { results := [.lit (.bool true)], args := [d1, d2] }
  | _ => none }
def graphSoundRow : OpenClaim := { program := "ytlekfkibeafdiaagreat", sum := "418ddf37e2a400c2d83e1a71c29d980fc3815070502d38f95e79207f9d955211", func := "shunter/shunterlaw16.GraphSound", spec := "graphSound", inPlace := ["internal/bytealg.IndexByteString", "internal/bytealg.IndexString", "internal/abi.NoEscape", "math/bits.Sub64"], unfollowed := true, recurses := true, named := ["internal/bytealg.MaxLen"], apart := false }
def GraphSoundSaid : Prop := graphSoundRow.holds Tryz.pinned (OpenSpec.ofChange graphSoundSpec)

/-- ITS FALSE NEIGHBOUR: 'it returns false'. Refute it at one input. -/
def graphSoundWrong : ChangeSpec := { name := "graphSound", fn := fun _ => fun
  | [d1, d2] => { results := [.lit (.bool false)], args := [d1, d2] }
  | _ => none }
def GraphSoundWrongFalsely : Prop := graphSoundRow.holds Tryz.pinned (OpenSpec.ofChange graphSoundWrong)

/- THE SECOND FORM. 'bulk': how many values and letters a reading holds, each counted each time it is reached (what is shared counts as often as it is met; a slice's spare places count too). A statement '..UptoSaid' is the law's where the arguments, and the package variables that the reading takes, are together of bulk at most 1048576: NARROWER than '..Said'. Prove '..Said' where nothing that the law and all that it calls make is longer than what came in: it says more and counts as full. Else prove '..UptoSaid'. A law counts once. -/
mutual
def uptoBulk {H : Type} : DataW H → Nat
  | .lit (.string bytes) => bytes.length + 1
  | .lit _ => 1
  | .nil => 1
  | .ptr d => uptoBulk d + 1
  | .slice elems spare => uptoBulkAll elems + uptoBulkAll spare + 1
  | .agg parts => uptoBulkAll parts + 1
  | .iface _ d => uptoBulk d + 1
  | .map entries => uptoBulkEntries entries + 1
  | .held _ => 1
def uptoBulkAll {H : Type} : List (DataW H) → Nat
  | [] => 0
  | d :: r => uptoBulk d + uptoBulkAll r
def uptoBulkEntries {H : Type} : List (Lit × DataW H) → Nat
  | [] => 0
  | x :: r => uptoBulkEntry x + uptoBulkEntries r
def uptoBulkEntry {H : Type} : Lit × DataW H → Nat
  | (.string bytes, d) => bytes.length + uptoBulk d + 1
  | (_, d) => uptoBulk d + 1
 end
def uptoSmall : (H : Type) → List (DataW H) → Bool := fun _ ds => decide (uptoBulkAll ds ≤ 1048576)
def OpenSpec.upto (s : _root_.Go.ChangeSpec) : _root_.Go.OpenSpec := { _root_.Go.OpenSpec.ofChange s with cond := some uptoSmall }

/-- 'shunterlaw16.GraphRefuses', WHERE WHAT IT READS IS OF BULK AT MOST 1048576: true; the input reads as it did. -/
def graphRefusesUptoRow : OpenClaim := { program := "ytlekfkibeafdiaagreat", sum := "418ddf37e2a400c2d83e1a71c29d980fc3815070502d38f95e79207f9d955211", func := "shunter/shunterlaw16.GraphRefuses", spec := "graphRefuses", inPlace := ["internal/bytealg.IndexByteString", "internal/bytealg.IndexString", "internal/abi.NoEscape", "math/bits.Sub64"], unfollowed := true, recurses := true, named := ["internal/bytealg.MaxLen"], apart := false, narrowed := true }
def GraphRefusesUptoSaid : Prop := graphRefusesUptoRow.holds Tryz.pinned (OpenSpec.upto graphRefusesSpec)

/-- 'shunterlaw16.GraphFacts', WHERE WHAT IT READS IS OF BULK AT MOST 1048576: true; the input reads as it did. -/
def graphFactsUptoRow : OpenClaim := { program := "ytlekfkibeafdiaagreat", sum := "418ddf37e2a400c2d83e1a71c29d980fc3815070502d38f95e79207f9d955211", func := "shunter/shunterlaw16.GraphFacts", spec := "graphFacts", inPlace := ["internal/bytealg.IndexByteString", "internal/bytealg.IndexString", "internal/abi.NoEscape", "math/bits.Sub64"], unfollowed := true, recurses := true, named := ["internal/bytealg.MaxLen"], apart := false, narrowed := true }
def GraphFactsUptoSaid : Prop := graphFactsUptoRow.holds Tryz.pinned (OpenSpec.upto graphFactsSpec)

/-- 'shunterlaw16.GraphSound', WHERE WHAT IT READS IS OF BULK AT MOST 1048576: true; the input reads as it did. -/
def graphSoundUptoRow : OpenClaim := { program := "ytlekfkibeafdiaagreat", sum := "418ddf37e2a400c2d83e1a71c29d980fc3815070502d38f95e79207f9d955211", func := "shunter/shunterlaw16.GraphSound", spec := "graphSound", inPlace := ["internal/bytealg.IndexByteString", "internal/bytealg.IndexString", "internal/abi.NoEscape", "math/bits.Sub64"], unfollowed := true, recurses := true, named := ["internal/bytealg.MaxLen"], apart := false, narrowed := true }
def GraphSoundUptoSaid : Prop := graphSoundUptoRow.holds Tryz.pinned (OpenSpec.upto graphSoundSpec)

end Rows
end Go.Proofs.YtlekfkibeafdiaaGreat
