/- Functions that are taken by their contracts: what they answer. -/
import Derived.Test.YtgkdconajdjkgaaGreatVeKey
import Derived.Test.YtgkdconajdjkgaaGreatVeSym
import Derived.Shelf.Strings.Search3
namespace Go.VE.Un
open Go.VE

/-- name.Key -/
def p560 : List V → Option V
  | [.str s] => if s.length ≤ 35184372088831 then some (.str (keyL s)) else none
  | _ => none
def x560 : VFunc := ⟨false, [], .skip, some p560⟩
/-- strings.Contains of one byte -/
def p1234 : List V → Option V
  | [.str s, .str [c]] => some (.bool (decide (0 ≤ Lib.indexByte s c)))
  | _ => none
def x1234 : VFunc := ⟨false, [], .skip, some p1234⟩
/-- math/bits.Sub64 -/
def p378 : List V → Option V
  | [.int .u64 x, .int .u64 y, .int .u64 b] =>
    if 0 ≤ x ∧ 0 ≤ y ∧ 0 ≤ b ∧ b ≤ 1 then some (.tup [.int .u64 (((x.toNat + 18446744073709551616 - y.toNat - b.toNat) % 18446744073709551616 : Nat) : Int), .int .u64 ((if x.toNat < y.toNat + b.toNat then 1 else 0 : Nat) : Int)]) else none
  | _ => none
def x378 : VFunc := ⟨false, [], .skip, some p378⟩
end Go.VE.Un
