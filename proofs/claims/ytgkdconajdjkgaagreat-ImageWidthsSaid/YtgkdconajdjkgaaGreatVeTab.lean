/- Tables by number, searched by halves. -/
import Derived.Test.YtgkdconajdjkgaaGreatVeCode
import Derived.KernelRfl
namespace Go.VE

inductive Tree (α : Type) where
  | leaf
  | node (l : Tree α) (k : Nat) (v : α) (r : Tree α)

def Tree.get {α : Type} : Tree α → Nat → Option α
  | .leaf, _ => none
  | .node l k v r, n => if Nat.blt n k then l.get n else if Nat.blt k n then r.get n else some v

def Tree.toList {α : Type} : Tree α → List (Nat × α)
  | .leaf => []
  | .node l k v r => l.toList ++ (k, v) :: r.toList

theorem Tree.get_mem {α : Type} {n : Nat} {v : α} : ∀ {t : Tree α}, t.get n = some v → (n, v) ∈ t.toList
  | .leaf, h => by simp [Tree.get] at h
  | .node l k x r, h => by
    simp only [Tree.get] at h
    simp only [Tree.toList, List.mem_append, List.mem_cons]
    split at h
    · exact .inl (get_mem h)
    · rename_i h1
      split at h
      · exact .inr (.inr (get_mem h))
      · rename_i h2
        have e : n = k := by
          simp only [Nat.blt_eq] at h1 h2
          omega
        simp only [Option.some.injEq] at h
        exact .inr (.inl (by rw [e, h]))

def Tree.all {α : Type} (p : Nat → α → Bool) : Tree α → Bool
  | .leaf => true
  | .node l k v r => p k v && l.all p && r.all p

theorem Tree.all_get {α : Type} {p : Nat → α → Bool} {n : Nat} {v : α} : ∀ {t : Tree α}, t.all p = true → t.get n = some v → p n v = true
  | .leaf, _, h => by simp [Tree.get] at h
  | .node l k x r, ha, h => by
    simp only [Tree.all, Bool.and_eq_true] at ha
    simp only [Tree.get] at h
    split at h
    · exact all_get ha.1.2 h
    · rename_i h1
      split at h
      · exact all_get ha.2 h
      · rename_i h2
        have e : n = k := by
          simp only [Nat.blt_eq] at h1 h2
          omega
        simp only [Option.some.injEq] at h
        rw [e, ← h]; exact ha.1.1

end Go.VE
