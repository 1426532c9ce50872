/- Blocks that are known before they lie anywhere. -/
import Derived.Test.YtgkdconajdjkgaaGreatVeDraw1
namespace Go.VE
set_option linter.unusedVariables false
set_option linter.unnecessarySimpa false
set_option linter.unusedSimpArgs false
open Classical

section
variable {P : Program} {T : Tbl} {vp : VP} {G : Gh} {w w' : World} {lo : Nat} {h : Heap} {G0 : Gh} {w0 : World} {h0 : Heap}

theorem HInv.sdomh (hi : HInv T G lo h w) {B ep : Nat} {g : Img} (e : G.sg B ep = some g) : B < h.length := Nat.lt_of_lt_of_le (hi.sdom _ _ _ e) hi.nle
theorem HInv.idomh (hi : HInv T G lo h w) {B r : Nat} (e : G.io B = some r) : B < h.length := Nat.lt_of_lt_of_le (hi.idom _ _ e) hi.nle

/-- Blocks that lie nowhere as yet. -/
theorem virt (hi : HInv T G lo h w) (bs : Heap) : HInv T G lo (h ++ bs) w := by
  have get : ∀ B b, B < h.length → (h ++ bs)[B]? = some b → h[B]? = some b := fun B b hB e => by rwa [List.getElem?_append_left hB] at e
  exact ⟨hi.gp, hi.gb, by have := hi.llo; simp; omega, by have := hi.nle; simp; omega, hi.sdom, hi.idom, fun B es ep g e hs => hi.eple B es ep g (get _ _ (hi.sdomh hs) e) hs,
    fun B es g e hs => hi.live B es g (get _ _ (hi.sdomh hs) e) hs, fun B s pos r e hr => hi.iter B s pos r (get _ _ (hi.idomh hr) e) hr,
    fun B es g hl e hs => by
      obtain ⟨h1, h2⟩ := hi.own B es g hl (get _ _ (hi.sdomh hs) e) hs
      exact ⟨h1, fun B' es' g' hne e' hs' => h2 B' es' g' hne (get _ _ (hi.sdomh hs') e') hs'⟩,
    fun B s pos r hl e hr B' s' pos' r' hne e' hr' => hi.iown B s pos r hl (get _ _ (hi.idomh hr) e) hr B' s' pos' r' hne (get _ _ (hi.idomh hr') e') hr'⟩

theorem virt_stp (hi : HInv T G lo h w) (bs : Heap) : Stp lo G h w G (h ++ bs) w := by
  refine ⟨G.le_refl, rfl, rfl, rfl, Nat.le_refl _, fun b hb hn => ⟨rfl, fun _ => rfl, ?_⟩, rfl, fun _ _ => ⟨fun _ => rfl, rfl⟩, ⟨by simp, fun B es' hB e => ?_⟩⟩
  · rintro ⟨B, hl, ⟨es, g, e, hs, rfl⟩ | ⟨s, pos, e, hr⟩⟩
    · rw [List.getElem?_append_left (hi.sdomh hs)] at e
      exact hn ⟨B, hl, .inl ⟨es, g, e, hs, rfl⟩⟩
    · rw [List.getElem?_append_left (hi.idomh hr)] at e
      exact hn ⟨B, hl, .inr ⟨s, pos, e, hr⟩⟩
  · rw [List.getElem?_append_left hB] at e
    exact ⟨es', e, Nat.le_refl _, fun _ k => k⟩

/-- A call that writes nothing of what was there: nothing of it is its own. -/
theorem raise (hi : HInv T G lo h w) : HInv T G h.length h w := by
  refine ⟨hi.gp, hi.gb, Nat.le_refl _, hi.nle, hi.sdom, hi.idom, hi.eple, hi.live, hi.iter, fun B es g hl e => ?_, fun B s pos r hl e => ?_⟩
  · have := (List.getElem?_eq_some_iff.1 e).1; omega
  · have := (List.getElem?_eq_some_iff.1 e).1; omega

theorem lower {G' : Gh} (hi : HInv T G lo h w) (hi' : HInv T G' h.length h w') (st : Stp h.length G h w G' h w') : HInv T G' lo h w' ∧ Stp lo G h w G' h w' := by
  have noown : ∀ b, ¬ Own G h.length h b := by
    rintro b ⟨B, hl, ⟨es, g, e, _⟩ | ⟨s, pos, e, _⟩⟩
    · have := (List.getElem?_eq_some_iff.1 e).1; omega
    · have := (List.getElem?_eq_some_iff.1 e).1; omega
  have hlt : ∀ {B : Nat} {b : Blk}, h[B]? = some b → B < h.length := fun e => (List.getElem?_eq_some_iff.1 e).1
  have sgs : ∀ B ep, B < h.length → G'.sg B ep = G.sg B ep := fun B ep hB => (st.slo B hB).1 ep
  have ios : ∀ B, B < h.length → G'.io B = G.io B := fun B hB => (st.slo B hB).2
  refine ⟨⟨hi'.gp, hi'.gb, hi.llo, hi'.nle, hi'.sdom, hi'.idom, hi'.eple, hi'.live, hi'.iter, fun B es g hl e hs => ?_, fun B s pos r hl e hr B' s' pos' r' hne e' hr' => ?_⟩,
    ⟨st.le, st.os, st.tape, st.output, st.size, fun b hb hn => ?_, st.gbs, fun B hB => st.slo B (Nat.lt_of_lt_of_le hB hi.llo), st.mono⟩⟩
  · rw [sgs B _ (hlt e)] at hs
    obtain ⟨h1, h2⟩ := hi.own B es g hl e hs
    refine ⟨fun off => ?_, fun B' es' g' hne e' hs' => h2 B' es' g' hne e' (by rwa [sgs B' _ (hlt e')] at hs')⟩
    rw [(st.keep _ (hi.live_lt e hs) (noown _)).2.1 off, st.gbs]
    exact h1 off
  · rw [ios B (hlt e)] at hr
    rw [ios B' (hlt e')] at hr'
    exact hi.iown B s pos r hl e hr B' s' pos' r' hne e' hr'
  · obtain ⟨h1, h2, _⟩ := st.keep b hb (noown b)
    refine ⟨h1, h2, ?_⟩
    rintro ⟨B, hl, ⟨es, g, e, hs, rfl⟩ | ⟨s, pos, e, hr⟩⟩
    · exact hn ⟨B, hl, .inl ⟨es, g, e, by rwa [sgs B _ (hlt e)] at hs, rfl⟩⟩
    · exact hn ⟨B, hl, .inr ⟨s, pos, e, by rwa [ios B (hlt e)] at hr⟩⟩

/-- A block that lay nowhere comes to lie. -/
theorem realize (hi : HInv T G lo h w) (st : Stp lo G0 h0 w0 G h w) {B : Nat} {v : V} (hB : h[B]? = some (.arr [v])) (hl0 : h0.length ≤ B) (hlo : lo ≤ h0.length) (hno : G.sg B 1 = none)
    {rv : Value} (hv : okV v = true) (hR : R T G v rv) (t : TypeId) :
    ∃ G', HInv T G' lo h (w.alloc (.cells rv.cells t (0, 0))) ∧ Stp lo G0 h0 w0 G' h (w.alloc (.cells rv.cells t (0, 0))) ∧ G.le G' ∧ R T G' (.ptr B 1 0 0) (.pointer (some ⟨w.heap.size, 0, none⟩)) ∧
      ∀ B', B' ≠ B → ∀ ep, G'.sg B' ep = G.sg B' ep := by
  obtain ⟨k1, k2, k3⟩ := hR.cells hv
  let w' := w.alloc (.cells rv.cells t (0, 0))
  have hs : w'.heap.size = w.heap.size + 1 := heap_push_size w _
  have hk : ∀ b, b < w.heap.size → w'.heap[b]? = w.heap[b]? := heap_push_old w _
  have hb : w'.heap[w.heap.size]? = some (.cells rv.cells t (0, 0)) := heap_push_new w _
  have hBl : B < h.length := (List.getElem?_eq_some_iff.1 hB).1
  let g : Img := ⟨w.heap.size, 0, v.cells.length, rv.cells.size⟩
  let G' : Gh := { G with sg := fun B' ep => if B' = B ∧ ep = 1 then some g else G.sg B' ep, n := max G.n (B + 1) }
  have sg_eq : ∀ B' ep, G'.sg B' ep = if B' = B ∧ ep = 1 then some g else G.sg B' ep := fun _ _ => rfl
  have hle : G.le G' := ⟨fun _ _ _ e => e, fun _ _ _ e => e, fun B' ep x e => by
    rw [sg_eq]
    by_cases hc : B' = B ∧ ep = 1
    · rw [hc.1, hc.2, hno] at e; simp at e
    · rw [if_neg hc]; exact e, fun _ _ e => e, Nat.le_max_left _ _⟩
  have hsg : ∀ B' ep x, G'.sg B' ep = some x → (B' = B ∧ ep = 1 ∧ x = g) ∨ (¬ (B' = B ∧ ep = 1) ∧ G.sg B' ep = some x) := by
    intro B' ep x e
    rw [sg_eq] at e
    by_cases hc : B' = B ∧ ep = 1
    · rw [if_pos hc] at e; exact .inl ⟨hc.1, hc.2, by simpa using e.symm⟩
    · rw [if_neg hc] at e; exact .inr ⟨hc, e⟩
  have hi' := hi.grow (w' := w') (by omega) hk
  have stg : Stp lo G0 h0 w0 G h w' := st.trans (.grow rfl rfl rfl (by omega) hk)
  refine ⟨G', ⟨hi'.gp, hi'.gb, hi.llo, by have := hi.nle; show max G.n (B + 1) ≤ h.length; omega, fun B' ep x e => ?_, fun B' r e => ?_, fun B' es' ep x e hs' => ?_, fun B' es' x e hs' => ?_, hi'.iter, fun B' es' x hl e hs' => ?_, hi'.iown⟩,
    ⟨Gh.le_trans st.le hle, stg.os, stg.tape, stg.output, stg.size, fun b hb' hn => ?_, stg.gbs, fun B' hB' => ⟨fun ep => ?_, (stg.slo B' hB').2⟩, ⟨stg.mono.1, fun B' es' hB' e => ?_⟩⟩, hle, ?_, fun B' hne ep => ?_⟩
  · show B' < max G.n (B + 1)
    rcases hsg _ _ _ e with ⟨rfl, _, _⟩ | ⟨_, e'⟩
    · omega
    · have := hi.sdom _ _ _ e'; omega
  · have := hi.idom _ _ e; show B' < max G.n (B + 1); omega
  · rcases hsg _ _ _ hs' with ⟨rfl, rfl, _⟩ | ⟨_, e'⟩
    · rw [hB] at e; simp only [Option.some.injEq, Blk.arr.injEq] at e; subst e; simp
    · exact hi.eple _ _ _ _ e e'
  · rcases hsg _ _ _ hs' with ⟨rfl, _, rfl⟩ | ⟨_, e'⟩
    · rw [hB] at e; simp only [Option.some.injEq, Blk.arr.injEq] at e; subst e
      refine ⟨rv.cells, t, (0, 0), hb, rfl, fun off _ => by simp, by simp [g, k1], fun i e hie => ?_⟩
      cases i with
      | zero =>
        simp at hie; subst hie
        refine ⟨rfl, fun j c hj => ?_⟩
        have hj' : j < rv.cells.size := by rw [← k1]; exact (List.getElem?_eq_some_iff.1 hj).1
        refine ⟨rv.cells[j], ?_, (k2 j c _ hj (by simp [hj'])).mono hle, k3 j _ (by simp [hj'])⟩
        simp [g, hj']
      | succ i => simp at hie
    · obtain ⟨c', t', fz', h1, h2, h3, h4, h6⟩ := hi'.live B' es' x e e'
      exact ⟨c', t', fz', h1, h2, h3, h4, h6.mono hle⟩
  · have old : ∀ B2 es2 x2, h[B2]? = some (.arr es2) → G.sg B2 es2.length = some x2 → x2.b < w.heap.size := fun B2 es2 x2 e1 e2 => hi.live_lt e1 e2
    rcases hsg _ _ _ hs' with ⟨rfl, _, rfl⟩ | ⟨hc, e'⟩
    · refine ⟨fun off => ⟨?_, ?_⟩, fun B2 es2 g2 hne e2 hs2 => ?_⟩
      · show G.Gp w.heap.size off = none
        cases hgp : G.Gp w.heap.size off with
        | none => rfl
        | some v => exact absurd (hi.gp_lt hgp) (Nat.lt_irrefl _)
      · show G.Gb w.heap.size off = none
        cases hgp : G.Gb w.heap.size off with
        | none => rfl
        | some v => exact absurd (hi.gb_lt hgp) (Nat.lt_irrefl _)
      · rcases hsg _ _ _ hs2 with ⟨rfl, _, _⟩ | ⟨_, e2'⟩
        · exact absurd rfl hne
        · have := old _ _ _ e2 e2'
          show g2.b ≠ w.heap.size; omega
    · obtain ⟨h1, h2⟩ := hi.own B' es' x hl e e'
      refine ⟨h1, fun B2 es2 g2 hne e2 hs2 => ?_⟩
      rcases hsg _ _ _ hs2 with ⟨rfl, _, rfl⟩ | ⟨_, e2'⟩
      · have := old _ _ _ e e'
        show w.heap.size ≠ x.b; omega
      · exact h2 B2 es2 g2 hne e2 e2'
  · obtain ⟨h1, h2, h3⟩ := stg.keep b hb' hn
    refine ⟨h1, h2, ?_⟩
    rintro ⟨B', hl, ⟨es', x, e, hs', hxb⟩ | ⟨s, pos, e, hr⟩⟩
    · rcases hsg _ _ _ hs' with ⟨_, _, rfl⟩ | ⟨_, e'⟩
      · have := st.size
        have : b = w.heap.size := hxb.symm
        omega
      · exact h3 ⟨B', hl, .inl ⟨es', x, e, e', hxb⟩⟩
    · exact h3 ⟨B', hl, .inr ⟨s, pos, e, hr⟩⟩
  · rw [sg_eq, if_neg (by omega)]; exact (stg.slo B' hB').1 ep
  · obtain ⟨es, e1, e2, e3⟩ := stg.mono.2 B' es' hB' e
    refine ⟨es, e1, e2, fun hl hsm => e3 hl ?_⟩
    rw [sg_eq, if_neg (by omega)] at hsm; exact hsm
  · have := R.ptr (T := T) (G := G') B 1 0 0 g (by rw [sg_eq, if_pos ⟨rfl, rfl⟩])
    simpa [g] using this
  · rw [sg_eq, if_neg (by omega)]

end
end Go.VE
