/- The end of a call and the end of a round: blocks of which nobody speaks any more are let go; what they held stays for ever. -/
import Derived.Test.YtgkdconajdjkgaaGreatVeMem2
namespace Go.VE
set_option linter.unusedVariables false
set_option linter.unnecessarySimpa false
set_option linter.unusedSimpArgs false
open Classical

section
variable {P : Program} {T : Tbl} {G : Gh} {w w' : World} {lo : Nat} {h : Heap}

/-- The model's blocks where owned blocks from n on lie. -/
def Late (G : Gh) (lo n : Nat) (h : Heap) (b : Nat) : Prop := ∃ B es g, n ≤ B ∧ lo ≤ B ∧ h[B]? = some (.arr es) ∧ G.sg B es.length = some g ∧ g.b = b

theorem Late.own {n b : Nat} (hl : Late G lo n h b) : Own G lo h b := by
  obtain ⟨B, es, g, _, h2, h3, h4, h5⟩ := hl
  exact ⟨B, h2, .inl ⟨es, g, h3, h4, h5⟩⟩

/-- What is known when the blocks from n on are let go, the borrowed cells being Gb then. -/
noncomputable def Gh.drop (G : Gh) (lo n : Nat) (h : Heap) (w : World) (Gb : Nat → Nat → Option Value) : Gh where
  Gp b off := if Late G lo n h b then w.cell? ⟨b, off, none⟩ else G.Gp b off
  Gb := Gb
  sg B ep := if B < n then G.sg B ep else none
  io B := if B < n then G.io B else none
  n := n

theorem drop_gp (hi : HInv T G lo h w) {n : Nat} {Gb} {b off : Nat} {v : Value} (e : G.Gp b off = some v) : (G.drop lo n h w Gb).Gp b off = some v := by
  show (if Late G lo n h b then w.cell? ⟨b, off, none⟩ else G.Gp b off) = some v
  split
  · exact hi.gp _ _ _ e
  · exact e

/-- Blocks from n on are let go. -/
theorem drop_blocks (hi : HInv T G lo h w) {n : Nat} (hn : n ≤ h.length) (hlo : lo ≤ n)
    (hold : ∀ B es, B < n → h[B]? = some (.arr es) → (G.sg B es.length).isSome = true → belowL n es = true) :
    HInv T (G.drop lo n h w G.Gb) lo (h.take n) w := by
  have get : ∀ B b, (h.take n)[B]? = some b → B < n ∧ h[B]? = some b := by
    intro B b e
    rw [List.getElem?_take] at e
    split at e
    · exact ⟨‹_›, e⟩
    · simp at e
  have sgn : ∀ B ep x, (G.drop lo n h w G.Gb).sg B ep = some x → B < n ∧ G.sg B ep = some x := by
    intro B ep x e
    have e' : (if B < n then G.sg B ep else none) = some x := e
    split at e'
    · exact ⟨‹_›, e'⟩
    · simp at e'
  have ion : ∀ B x, (G.drop lo n h w G.Gb).io B = some x → B < n ∧ G.io B = some x := by
    intro B x e
    have e' : (if B < n then G.io B else none) = some x := e
    split at e'
    · exact ⟨‹_›, e'⟩
    · simp at e'
  refine ⟨fun b off v e => ?_, hi.gb, by simp; have := hi.llo; omega, by show n ≤ (h.take n).length; simp; omega, fun B ep x e => (sgn _ _ _ e).1, fun B x e => (ion _ _ e).1, fun B es ep x e hs => ?_, fun B es x e hs => ?_, fun B s pos r e hr => ?_,
    fun B es x hl e hs => ?_, fun B s pos r hl e hr B' s' pos' r' hne e' hr' => ?_⟩
  · have e' : (if Late G lo n h b then w.cell? ⟨b, off, none⟩ else G.Gp b off) = some v := e
    split at e'
    · exact e'
    · exact hi.gp _ _ _ e'
  · exact hi.eple _ _ _ _ (get _ _ e).2 (sgn _ _ _ hs).2
  · obtain ⟨hB, e1⟩ := get _ _ e
    obtain ⟨_, hs1⟩ := sgn _ _ _ hs
    obtain ⟨c, t, fz, h1, h2, h3, h4, h5⟩ := hi.live _ _ _ e1 hs1
    refine ⟨c, t, fz, h1, h2, h3, h4, fun i e2 hi2 => ⟨(h5 i e2 hi2).1, fun j v hj => ?_⟩⟩
    obtain ⟨rv, k1, k2, k3⟩ := (h5 i e2 hi2).2 j v hj
    have hbel := hold B _ hB e1 (by rw [hs1]; rfl)
    exact ⟨rv, k1, k2.under (n := n) (fun _ _ _ e => drop_gp hi e) (fun _ _ _ e => e) (fun B' ep x hB' e => by show (if B' < n then G.sg B' ep else none) = some x; rw [if_pos hB']; exact e)
      (fun B' r hB' e => by show (if B' < n then G.io B' else none) = some r; rw [if_pos hB']; exact e) (Nat.le_refl _) (below_cells (belowL_get hbel hi2) hj), k3⟩
  · exact hi.iter _ _ _ _ (get _ _ e).2 (ion _ _ hr).2
  · obtain ⟨hB, e1⟩ := get _ _ e
    obtain ⟨_, hs1⟩ := sgn _ _ _ hs
    obtain ⟨h1, h2⟩ := hi.own _ _ _ hl e1 hs1
    refine ⟨fun off => ⟨?_, (h1 off).2⟩, fun B' es' g' hne e' hs' => h2 B' es' g' hne (get _ _ e').2 (sgn _ _ _ hs').2⟩
    show (if Late G lo n h x.b then w.cell? ⟨x.b, off, none⟩ else G.Gp x.b off) = none
    rw [if_neg]
    · exact (h1 off).1
    · rintro ⟨B', es', g', k1, k2, k3, k4, k5⟩
      exact h2 B' es' g' (by omega) k3 k4 k5
  · exact hi.iown B s pos r hl (get _ _ e).2 (ion _ _ hr).2 B' s' pos' r' hne (get _ _ e').2 (ion _ _ hr').2

theorem drop_le {G0 : Gh} (hle : G0.le G) (hi : HInv T G lo h w) {n : Nat} (hn : G0.n ≤ n) (hs : ∀ B ep g, G0.sg B ep = some g → B < G0.n) (hio : ∀ B r, G0.io B = some r → B < G0.n) : G0.le (G.drop lo n h w G.Gb) :=
  ⟨fun b off v e => drop_gp hi (hle.gp _ _ _ e), hle.gb, fun B ep x e => by
    have := hs _ _ _ e
    show (if B < n then G.sg B ep else none) = some x
    rw [if_pos (by omega)]; exact hle.sg _ _ _ e, fun B r e => by
    have := hio _ _ e
    show (if B < n then G.io B else none) = some r
    rw [if_pos (by omega)]; exact hle.io _ _ e, hn⟩

/-- From the begin of a piece to its end with the late blocks let go. -/
theorem drop_stp {G0 : Gh} {h0 : Heap} {w0 : World} (hi0 : HInv T G0 lo h0 w0) (st : Stp lo G0 h0 w0 G h w) (hi : HInv T G lo h w) (hn : h0.length ≤ h.length) :
    Stp lo G0 h0 w0 (G.drop lo h0.length h w G.Gb) (h.take h0.length) w := by
  refine ⟨drop_le st.le hi hi0.nle hi0.sdom hi0.idom, st.os, st.tape, st.output, st.size, fun b hb hno => ?_, st.gbs, fun B hB => ?_, ⟨by simp; omega, fun B es' hB e => ?_⟩⟩
  · obtain ⟨h1, h2, h3⟩ := st.keep b hb hno
    refine ⟨h1, fun off => ?_, ?_⟩
    · show (if Late G lo h0.length h b then w.cell? ⟨b, off, none⟩ else G.Gp b off) = _
      rw [if_neg fun hl => h3 hl.own]; exact h2 off
    · rintro ⟨B, hl, ⟨es, g, e, hs, hg⟩ | ⟨s, pos, e, hr⟩⟩
      · have e' : (if B < h0.length then G.sg B es.length else none) = some g := hs
        rw [List.getElem?_take] at e
        split at e
        · rename_i hB; rw [if_pos hB] at e'; exact h3 ⟨B, hl, .inl ⟨es, g, e, e', hg⟩⟩
        · simp at e
      · have e' : (if B < h0.length then G.io B else none) = some b := hr
        rw [List.getElem?_take] at e
        split at e
        · rename_i hB; rw [if_pos hB] at e'; exact h3 ⟨B, hl, .inr ⟨s, pos, e, e'⟩⟩
        · simp at e
  · have := hi0.llo
    obtain ⟨h1, h2⟩ := st.slo B hB
    refine ⟨fun ep => ?_, ?_⟩
    · show (if B < h0.length then G.sg B ep else none) = _
      rw [if_pos (by omega)]; exact h1 ep
    · show (if B < h0.length then G.io B else none) = _
      rw [if_pos (by omega)]; exact h2
  · rw [List.getElem?_take, if_pos hB] at e
    obtain ⟨es, h1, h2, h3⟩ := st.mono.2 B es' hB e
    refine ⟨es, h1, h2, fun hl k => h3 hl ?_⟩
    have k' : (if B < h0.length then G.sg B es'.length else none).isSome = true := k
    rwa [if_pos hB] at k'

theorem HInv.belowOf {G0 : Gh} {h0 : Heap} {w0 : World} (hi0 : HInv T G0 lo h0 w0) {B : Nat} {es : List V} (e : h0[B]? = some (.arr es)) (hs : (G0.sg B es.length).isSome = true) : belowL h0.length es = true := by
  obtain ⟨g, hg⟩ := Option.isSome_iff_exists.1 hs
  obtain ⟨c, t, fz, h1, h2, h3, h4, h5⟩ := hi0.live _ _ _ e hg
  refine belowL_of es fun i v hv => ?_
  have := below_of_cells (n := G0.n) (e := v) fun j x hx => by
    obtain ⟨rv, _, k2, _⟩ := (h5 i v hv).2 j x hx
    exact k2.refs hi0.sdom hi0.idom
  exact belowB_mono hi0.nle this

/-- The old blocks refer to old blocks alone, if each is as it was or says so. -/
theorem old_below {G0 : Gh} {h0 : Heap} {w0 : World} (hi0 : HInv T G0 lo h0 w0) (st : Stp lo G0 h0 w0 G h w) (ho : okOld h0 h) :
    ∀ B es, B < h0.length → h[B]? = some (.arr es) → (G.sg B es.length).isSome = true → belowL h0.length es = true := by
  intro B es hB e hs
  rcases ho B hB with hh | ⟨b', e', hb'⟩
  · rw [e] at hh
    obtain ⟨es0, h1, h2, h3⟩ := st.mono.2 B es hB e
    rw [h1] at hh
    simp only [Option.some.injEq, Blk.arr.injEq] at hh
    subst hh
    exact hi0.belowOf h1 (h3 rfl hs)
  · rw [e] at e'
    simp only [Option.some.injEq] at e'
    rw [← e'] at hb'; exact hb'

end
end Go.VE
