/- Functions that are taken by a contract: what a contract must say. -/
import Derived.Test.YtgkdconajdjkgaaGreatVeLaw
namespace Go.VE
set_option linter.unusedVariables false
open Go.RowKit

/-- Nothing of what was there has changed: what is known stays known. -/
theorem below_keep {T : Tbl} {G : Gh} {lo : Nat} {h : Heap} {w w' : World} (hi : HInv T G lo h w) (hb : Below w.heap.size w w') : HInv T G lo h w' ∧ Stp lo G h w G h w' := by
  have cell : ∀ b off, b < w.heap.size → w'.cell? ⟨b, off, none⟩ = w.cell? ⟨b, off, none⟩ := fun b off hl => cell_block (hb.block b hl)
  refine ⟨⟨fun b off v e => ?_, fun b off v e => ?_, hi.llo, hi.nle, hi.sdom, hi.idom, hi.eple, fun B es g e hs => ?_, fun B s pos r e hr => ?_, hi.own, hi.iown⟩,
    ⟨G.le_refl, hb.os, hb.tape, hb.output, hb.size, fun b hl hn => ⟨hb.block b hl, fun _ => rfl, hn⟩, rfl, fun _ _ => ⟨fun _ => rfl, rfl⟩, .same fun _ _ => rfl⟩⟩
  · rw [cell b off (hi.gp_lt e)]; exact hi.gp _ _ _ e
  · rw [cell b off (hi.gb_lt e)]; exact hi.gb _ _ _ e
  · obtain ⟨c, t, fz, k1, k2⟩ := hi.live _ _ _ e hs
    exact ⟨c, t, fz, by rw [hb.block _ (heap_lt k1)]; exact k1, k2⟩
  · obtain ⟨s', k1, k2⟩ := hi.iter _ _ _ _ e hr
    exact ⟨s', k1, by rw [hb.block _ (heap_lt k2)]; exact k2⟩

/-- A closed value that refers to no memory: it stands so whatever is known. -/
def flatR (v : V) (rv : Value) : Prop := ∀ (T : Tbl) (G : Gh), R T G v rv

/-- A contract for what a function without side effects answers. -/
theorem extOK_of {P : Program} {T : Tbl} {f : Nat} {p : List V → Option V} {fid : FuncId} (hf : T.fid f = some fid) (hrun : ∀ (as : Array Value) (w : World), (callFunc fid as).run P w = .ok (.enter fid as) w)
    (h : ∀ (G : Gh) (vs : List V) (as : Array Value) (r : V), RA T G vs as → p vs = some r → closedB r = true ∧ ∃ rv, flatR r rv ∧ ∀ w : World, Calls P fid as w fun e w' => e = .returned rv ∧ Below w.heap.size w w') : ExtOK P T f p := by
  refine ⟨fid, hf, fun G lo hp w vs as r hi hR hr => ?_⟩
  obtain ⟨h1, rv, h2, h3⟩ := h G vs as r hR hr
  refine ⟨h1, .inr ⟨fid, as, hrun as w, (h3 w).mono fun e w' ⟨he, hb⟩ => ?_⟩⟩
  obtain ⟨k1, k2⟩ := below_keep hi hb
  exact ⟨rv, G, he, h2 _ _, k1, k2⟩

/-- .. of one that the machine answers at once. -/
theorem extOK_at {P : Program} {T : Tbl} {f : Nat} {p : List V → Option V} {fid : FuncId} (hf : T.fid f = some fid)
    (h : ∀ (G : Gh) (vs : List V) (as : Array Value) (r : V), RA T G vs as → p vs = some r → closedB r = true ∧ ∃ rv, flatR r rv ∧ ∀ w : World, (callFunc fid as).run P w = .ok (.value rv) w) : ExtOK P T f p := by
  refine ⟨fid, hf, fun G lo hp w vs as r hi hR hr => ?_⟩
  obtain ⟨h1, rv, h2, h3⟩ := h G vs as r hR hr
  exact ⟨h1, .inl (.same hi (h3 w) (h2 _ _))⟩

theorem RA.get1 {T : Tbl} {G : Gh} {v : V} {as : Array Value} (h : RA T G [v] as) : ∃ a, as = #[a] ∧ R T G v a := by
  obtain ⟨h1, h2⟩ := h
  have hs : as.size = 1 := by simpa using h1.symm
  refine ⟨as[0], ?_, h2 0 v as[0] rfl (by simp [hs])⟩
  apply Array.ext
  · simp [hs]
  · intro i h1 h2; simp at h2; subst h2; rfl
theorem RA.get2 {T : Tbl} {G : Gh} {v u : V} {as : Array Value} (h : RA T G [v, u] as) : ∃ a b, as = #[a, b] ∧ R T G v a ∧ R T G u b := by
  obtain ⟨h1, h2⟩ := h
  have hs : as.size = 2 := by simpa using h1.symm
  refine ⟨as[0], as[1], ?_, h2 0 v as[0] rfl (by simp [hs]), h2 1 u as[1] rfl (by simp [hs])⟩
  apply Array.ext
  · simp [hs]
  · intro i h1 h2
    have : i = 0 ∨ i = 1 := by simp at h2; omega
    rcases this with rfl | rfl <;> rfl
theorem RA.get3 {T : Tbl} {G : Gh} {v u t : V} {as : Array Value} (h : RA T G [v, u, t] as) : ∃ a b c, as = #[a, b, c] ∧ R T G v a ∧ R T G u b ∧ R T G t c := by
  obtain ⟨h1, h2⟩ := h
  have hs : as.size = 3 := by simpa using h1.symm
  refine ⟨as[0], as[1], as[2], ?_, h2 0 v as[0] rfl (by simp [hs]), h2 1 u as[1] rfl (by simp [hs]), h2 2 t as[2] rfl (by simp [hs])⟩
  apply Array.ext
  · simp [hs]
  · intro i h1 h2
    have : i = 0 ∨ i = 1 ∨ i = 2 := by simp at h2; omega
    rcases this with rfl | rfl | rfl <;> rfl

/-- What the evaluator answers of a function that takes no reference, as a fact about the program. -/
theorem calls_of_RO {P : Program} {T : Tbl} {vp : VP} (tied : Tied P T vp) {f : Nat} {vf : VFunc} (hv : vp.fn f = some vf) (hx : vf.ext = none) {fid : FuncId} (hf : T.fid f = some fid) {W : World} {vs : List V} {as : Array Value} (hR : RA T (G0 W) vs as)
    {r : V} {h' : Heap} (e : callF vp f 0 vs [] = some (r, h')) : Calls P fid as W fun e w' => (∃ rv G', e = .returned rv ∧ R T G' r rv) ∧ Below W.heap.size W w' :=
  (callF_ok tied hv hx e (start T W) hf hR).mono fun e w' ⟨rv, G', h1, h2, h3, h4⟩ => ⟨⟨rv, G', h1, h2⟩, h4.below⟩

end Go.VE
