/- A call without arguments, reckoned by the kernel; the answer of a law. -/
import Derived.Test.YtgkdconajdjkgaaGreatVeSym
import Derived.Test.YtgkdconajdjkgaaGreatVeLaw
namespace Go.VE
set_option linter.unusedVariables false
open Go.RowKit

def isTrue (r : Option (V × Heap)) : Bool :=
  match r with
  | some (.bool b, _) => b
  | _ => false
theorem isTrue_some {r : Option (V × Heap)} (h : isTrue r = true) : ∃ hp, r = some (.bool true, hp) := by
  unfold isTrue at h
  split at h
  · subst h; exact ⟨_, rfl⟩
  · simp at h
theorem callRO_of_runs {vp : VP} {f n : Nat} {args : List V} (h : isTrue ((orcN vp n).call f 0 args []) = true) : callRO vp f args = some (.bool true) := by
  obtain ⟨hp, e⟩ := isTrue_some h
  unfold callRO
  rw [(orcN_le_orc vp n).call _ _ _ _ _ e]
  rfl
theorem frz_bool {lo d : Nat} {h : Heap} {r : V} {b : Bool} (e : frz lo h d r = some (.bool b)) : r = .bool b := by
  have hm : ∀ (o : Option V) (f : V → V), (∀ x, f x ≠ .bool b) → o.map f = some (.bool b) → False := fun o f hf he => by
    cases o with
    | none => simp at he
    | some x => simp at he; exact hf x he
  have hm2 : ∀ (o : Option (List V)) (f : List V → V), (∀ x, f x ≠ .bool b) → o.map f = some (.bool b) → False := fun o f hf he => by
    cases o with
    | none => simp at he
    | some x => simp at he; exact hf x he
  cases d with
  | zero => simp only [frz] at e; split at e <;> simp at e; exact e
  | succ d =>
    cases r <;> try (simp [frz] at e; done)
    all_goals unfold frz at e
    all_goals (try simp only [cb_bool, if_true, Option.some.injEq] at e)
    all_goals (try exact e)
    all_goals exfalso
    all_goals (split at e <;> try (simp at e; done))
    all_goals (try (exact hm _ _ (by simp) e))
    all_goals (try (exact hm2 _ _ (by simp) e))
    · split at e
      · simp at e
      · simp only [Option.bind_eq_some_iff, Option.map_eq_some_iff] at e
        obtain ⟨_, _, _, _, e⟩ := e
        simp at e
    · split at e
      · simp at e
      · split at e
        · split at e
          · simp only [Option.bind_eq_some_iff, Option.map_eq_some_iff] at e
            obtain ⟨_, _, _, _, e⟩ := e
            simp at e
          · simp at e
        · simp at e
/-- From a law's contract to its call. -/
theorem law_of_RO {P : Program} {T : Tbl} {vp : VP} (tied : Tied P T vp) {f : Nat} {vf : VFunc} (hv : vp.fn f = some vf) (hx : vf.ext = none) {fid : FuncId} (hf : T.fid f = some fid) {W : World} {vs : List V} {as : Array Value} (hR : RA T (G0 W) vs as)
    (e : callRO vp f vs = some (.bool true)) : Calls P fid as W fun e w' => e = .returned (.bool true) ∧ Below W.heap.size W w' := by
  unfold callRO at e
  simp only [Option.bind_eq_some_iff] at e
  obtain ⟨⟨r, h'⟩, e1, e2⟩ := e
  have := frz_bool e2
  simp only at this; subst this
  exact law_calls tied hv hx hf hR e1
end Go.VE
