/- Steps of memory, the second half: a block that dies, iterators, the end of a call, the end of a round. -/
import Derived.Test.YtgkdconajdjkgaaGreatVeMem
namespace Go.VE
set_option linter.unusedVariables false
set_option linter.unnecessarySimpa false
set_option linter.unusedSimpArgs false
open Classical

section
variable {P : Program} {T : Tbl} {G : Gh} {w w' : World} {lo : Nat} {h : Heap}

theorem gap (hi : HInv T G lo h w) {B : Nat} {es : List V} {g : Img} (hlo : lo ≤ B) (hB : h[B]? = some (.arr es)) (hg : G.sg B es.length = some g) (off : Nat) : G.Gp g.b off = none :=
  ((hi.own B es g hlo hB hg).1 off).1

/-- A block of the call's own is given up: its cells stay for ever. -/
theorem kill_block (hi : HInv T G lo h w) {B : Nat} {es : List V} (hlo : lo ≤ B) (hB : h[B]? = some (.arr es)) :
    ∃ G', HInv T G' lo (h.set B .dead) w ∧ Stp lo G h w G' (h.set B .dead) w ∧ ∀ g, G.sg B es.length = some g → ∀ off v, w.cell? ⟨g.b, off, none⟩ = some v → G'.Gp g.b off = some v := by
  have set_arr : ∀ B' es'', (h.set B .dead)[B']? = some (.arr es'') → B' ≠ B ∧ h[B']? = some (.arr es'') := by
    intro B' es'' e
    rcases get_set e with ⟨_, h2, _⟩ | h1
    · cases h2
    · exact h1
  have set_it : ∀ B' s pos, (h.set B .dead)[B']? = some (.iter s pos) → B' ≠ B ∧ h[B']? = some (.iter s pos) := by
    intro B' s pos e
    rcases get_set e with ⟨_, h2, _⟩ | h1
    · cases h2
    · exact h1
  cases hg : G.sg B es.length with
  | none =>
    refine ⟨G, ⟨hi.gp, hi.gb, by rw [List.length_set]; exact hi.llo, by rw [List.length_set]; exact hi.nle, hi.sdom, hi.idom, fun B' es'' ep x e hs => ?_, fun B' es'' x e hs => ?_, fun B' s pos r e hr => ?_, fun B' es'' x hl e hs => ?_,
      fun B' s pos r hl e hr B'' s' pos' r' hne e' hr' => ?_⟩, ⟨G.le_refl, rfl, rfl, rfl, Nat.le_refl _, fun b hb hno => ⟨rfl, fun _ => rfl, ?_⟩, rfl, fun _ _ => ⟨fun _ => rfl, rfl⟩, .other (fun _ => by simp) fun _ _ => rfl⟩, fun g hh => by simp at hh⟩
    · exact hi.eple _ _ _ _ (set_arr _ _ e).2 hs
    · exact hi.live _ _ _ (set_arr _ _ e).2 hs
    · exact hi.iter _ _ _ _ (set_it _ _ _ e).2 hr
    · obtain ⟨h1, h2⟩ := hi.own _ _ _ hl (set_arr _ _ e).2 hs
      exact ⟨h1, fun B'' es3 g' hne e3 hs3 => h2 B'' es3 g' hne (set_arr _ _ e3).2 hs3⟩
    · exact hi.iown B' s pos r hl (set_it _ _ _ e).2 hr B'' s' pos' r' hne (set_it _ _ _ e').2 hr'
    · rintro ⟨B', hl, ⟨es', x, e, hs', hx⟩ | ⟨s, pos, e, hr⟩⟩
      · exact hno ⟨B', hl, .inl ⟨es', x, (set_arr _ _ e).2, hs', hx⟩⟩
      · exact hno ⟨B', hl, .inr ⟨s, pos, (set_it _ _ _ e).2, hr⟩⟩
  | some g =>
    have hown := hi.own B es g hlo hB hg
    let G' : Gh := { G with Gp := fun b off => if b = g.b then w.cell? ⟨b, off, none⟩ else G.Gp b off }
    have hgd : ∀ b off, G'.Gp b off = if b = g.b then w.cell? ⟨b, off, none⟩ else G.Gp b off := fun _ _ => rfl
    have hle : G.le G' := ⟨fun b off v e => by
      rw [hgd]; split
      · rename_i hb; subst hb; rw [(hown.1 off).1] at e; simp at e
      · exact e, fun _ _ _ e => e, fun _ _ _ e => e, fun _ _ e => e, Nat.le_refl _⟩
    refine ⟨G', ⟨fun b off v e => ?_, hi.gb, by rw [List.length_set]; exact hi.llo, by rw [List.length_set]; exact hi.nle, hi.sdom, hi.idom, fun B' es'' ep x e hs => ?_, fun B' es'' x e hs => ?_, fun B' s pos r e hr => ?_, fun B' es'' x hl e hs => ?_,
      fun B' s pos r hl e hr B'' s' pos' r' hne e' hr' => ?_⟩, ⟨hle, rfl, rfl, rfl, Nat.le_refl _, fun b hb hno => ⟨rfl, fun off => ?_, ?_⟩, rfl, fun _ _ => ⟨fun _ => rfl, rfl⟩, .other (fun _ => by simp) fun _ _ => rfl⟩, fun g' hh off v e => ?_⟩
    · rw [hgd] at e
      split at e
      · exact e
      · exact hi.gp _ _ _ e
    · exact hi.eple _ _ _ _ (set_arr _ _ e).2 hs
    · obtain ⟨c', t', fz', h1, h2, h3, h4, h6⟩ := hi.live _ _ _ (set_arr _ _ e).2 hs
      exact ⟨c', t', fz', h1, h2, h3, h4, h6.mono hle⟩
    · exact hi.iter _ _ _ _ (set_it _ _ _ e).2 hr
    · obtain ⟨h1, h2⟩ := hi.own _ _ _ hl (set_arr _ _ e).2 hs
      have hne := hown.2 B' es'' x (set_arr _ _ e).1 (set_arr _ _ e).2 hs
      exact ⟨fun off => ⟨by rw [hgd, if_neg hne]; exact (h1 off).1, (h1 off).2⟩, fun B'' es3 g' hne e3 hs3 => h2 B'' es3 g' hne (set_arr _ _ e3).2 hs3⟩
    · exact hi.iown B' s pos r hl (set_it _ _ _ e).2 hr B'' s' pos' r' hne (set_it _ _ _ e').2 hr'
    · rw [hgd, if_neg]
      rintro rfl
      exact hno ⟨B, hlo, .inl ⟨es, g, hB, hg, rfl⟩⟩
    · rintro ⟨B', hl, ⟨es', x, e, hs', hx⟩ | ⟨s, pos, e, hr⟩⟩
      · exact hno ⟨B', hl, .inl ⟨es', x, (set_arr _ _ e).2, hs', hx⟩⟩
      · exact hno ⟨B', hl, .inr ⟨s, pos, (set_it _ _ _ e).2, hr⟩⟩
    · simp only [Option.some.injEq] at hh; subst hh
      rw [hgd, if_pos rfl]; exact e

/-- A block of the evaluator's for nothing of the model's (yet). -/
theorem new_virtual (hi : HInv T G lo h w) : ∃ G', HInv T G' lo (h ++ [.arr []]) w ∧ Stp lo G h w G' (h ++ [.arr []]) w ∧ h.length < G'.n := by
  let G' : Gh := { G with n := h.length + 1 }
  have hle : G.le G' := ⟨fun _ _ _ e => e, fun _ _ _ e => e, fun _ _ _ e => e, fun _ _ e => e, by have := hi.nle; show G.n ≤ h.length + 1; omega⟩
  have hsd : ∀ B ep x, G.sg B ep = some x → B < h.length := fun B ep x e => Nat.lt_of_lt_of_le (hi.sdom _ _ _ e) hi.nle
  have hid : ∀ B x, G.io B = some x → B < h.length := fun B x e => Nat.lt_of_lt_of_le (hi.idom _ _ e) hi.nle
  have hget : ∀ B b, B < h.length → (h ++ [Blk.arr []])[B]? = some b → h[B]? = some b := by
    intro B b hl e
    rwa [List.getElem?_append_left hl] at e
  refine ⟨G', ⟨hi.gp, hi.gb, by have := hi.llo; simp; omega, by simp [G'], fun B ep x e => ?_, fun B r e => ?_, fun B es' ep x e hs' => ?_, fun B es' x e hs' => ?_, fun B s pos r e hr => ?_, fun B es' x hl e hs' => ?_,
    fun B s pos r hl e hr B' s' pos' r' hne e' hr' => ?_⟩, ⟨hle, rfl, rfl, rfl, Nat.le_refl _, fun b hb hno => ⟨rfl, fun _ => rfl, ?_⟩, rfl, fun _ _ => ⟨fun _ => rfl, rfl⟩, .push fun _ _ _ => rfl⟩, Nat.lt_succ_self _⟩
  · have := hsd _ _ _ e; show B < h.length + 1; omega
  · have := hid _ _ e; show B < h.length + 1; omega
  · exact hi.eple _ _ _ _ (hget _ _ (hsd _ _ _ hs') e) hs'
  · obtain ⟨c', t', fz', h1, h2, h3, h4, h6⟩ := hi.live _ _ _ (hget _ _ (hsd _ _ _ hs') e) hs'
    exact ⟨c', t', fz', h1, h2, h3, h4, h6.mono hle⟩
  · exact hi.iter _ _ _ _ (hget _ _ (hid _ _ hr) e) hr
  · obtain ⟨h1, h2⟩ := hi.own _ _ _ hl (hget _ _ (hsd _ _ _ hs') e) hs'
    exact ⟨h1, fun B'' es3 g' hne e3 hs3 => h2 B'' es3 g' hne (hget _ _ (hsd _ _ _ hs3) e3) hs3⟩
  · exact hi.iown B s pos r hl (hget _ _ (hid _ _ hr) e) hr B' s' pos' r' hne (hget _ _ (hid _ _ hr') e') hr'
  · rintro ⟨B, hl, ⟨es', x, e, hs', hx⟩ | ⟨s, pos, e, hr⟩⟩
    · exact hno ⟨B, hl, .inl ⟨es', x, hget _ _ (hsd _ _ _ hs') e, hs', hx⟩⟩
    · exact hno ⟨B, hl, .inr ⟨s, pos, hget _ _ (hid _ _ hr) e, hr⟩⟩

/-- A new iterator. -/
theorem new_iter (hi : HInv T G lo h w) (hs : w'.heap.size = w.heap.size + 1) (hk : ∀ b, b < w.heap.size → w'.heap[b]? = w.heap[b]?) (hos : w'.os = w.os) (ht : w'.tape = w.tape) (ho : w'.output = w.output)
    {s : List UInt8} {s' : ByteArray} {pos : Nat} (hs' : s'.data.toList = s) (hb : w'.heap[w.heap.size]? = some (.stringIter s' pos)) :
    ∃ G', HInv T G' lo (h ++ [.iter s pos]) w' ∧ Stp lo G h w G' (h ++ [.iter s pos]) w' ∧ G'.io h.length = some w.heap.size := by
  let G' : Gh := { G with io := fun B => if B = h.length then some w.heap.size else G.io B, n := h.length + 1 }
  have hio : ∀ B, G'.io B = if B = h.length then some w.heap.size else G.io B := fun _ => rfl
  have hsd : ∀ B ep x, G.sg B ep = some x → B < h.length := fun B ep x e => Nat.lt_of_lt_of_le (hi.sdom _ _ _ e) hi.nle
  have hid : ∀ B x, G.io B = some x → B < h.length := fun B x e => Nat.lt_of_lt_of_le (hi.idom _ _ e) hi.nle
  have hle : G.le G' := ⟨fun _ _ _ e => e, fun _ _ _ e => e, fun _ _ _ e => e, fun B r e => by rw [hio, if_neg (by have := hid _ _ e; omega)]; exact e, by have := hi.nle; show G.n ≤ h.length + 1; omega⟩
  have hi' := hi.grow (w' := w') (by omega) hk
  have hget : ∀ B b, B < h.length → (h ++ [Blk.iter s pos])[B]? = some b → h[B]? = some b := by
    intro B b hl e
    rwa [List.getElem?_append_left hl] at e
  have hit : ∀ B q p r, (h ++ [Blk.iter s pos])[B]? = some (.iter q p) → G'.io B = some r → (B = h.length ∧ q = s ∧ p = pos ∧ r = w.heap.size) ∨ (B < h.length ∧ h[B]? = some (.iter q p) ∧ G.io B = some r) := by
    intro B q p r e hr
    rw [hio] at hr
    split at hr
    · rename_i hB
      subst hB
      rw [List.getElem?_append_right (Nat.le_refl _)] at e
      simp at e hr
      exact .inl ⟨rfl, e.1.symm, e.2.symm, hr.symm⟩
    · have := hid _ _ hr
      exact .inr ⟨this, hget _ _ this e, hr⟩
  refine ⟨G', ⟨hi'.gp, hi'.gb, by have := hi.llo; simp; omega, by simp [G'], fun B ep x e => ?_, fun B r e => ?_, fun B es' ep x e hs' => ?_, fun B es' x e hs' => ?_, fun B q p r e hr => ?_, fun B es' x hl e hs' => ?_,
    fun B q p r hl e hr B' q' p' r' hne e' hr' => ?_⟩, ⟨hle, hos, ht, ho, by omega, fun b hbl hno => ⟨hk b hbl, fun _ => rfl, ?_⟩, rfl, fun B hB => ⟨fun _ => rfl, by rw [hio, if_neg (by have := hi.llo; omega)]⟩, .push fun _ _ _ => rfl⟩, by rw [hio, if_pos rfl]⟩
  · have := hsd _ _ _ e; show B < h.length + 1; omega
  · rw [hio] at e
    show B < h.length + 1
    split at e
    · omega
    · have := hid _ _ e; omega
  · exact hi.eple _ _ _ _ (hget _ _ (hsd _ _ _ hs') e) hs'
  · obtain ⟨c', t', fz', h1, h2, h3, h4, h6⟩ := hi'.live _ _ _ (hget _ _ (hsd _ _ _ hs') e) hs'
    exact ⟨c', t', fz', h1, h2, h3, h4, h6.mono hle⟩
  · rcases hit _ _ _ _ e hr with ⟨rfl, rfl, rfl, rfl⟩ | ⟨_, e1, r1⟩
    · exact ⟨s', hs', hb⟩
    · exact hi'.iter _ _ _ _ e1 r1
  · obtain ⟨h1, h2⟩ := hi'.own _ _ _ hl (hget _ _ (hsd _ _ _ hs') e) hs'
    exact ⟨h1, fun B'' es3 g' hne e3 hs3 => h2 B'' es3 g' hne (hget _ _ (hsd _ _ _ hs3) e3) hs3⟩
  · rcases hit _ _ _ _ e hr with ⟨rfl, rfl, rfl, rfl⟩ | ⟨_, e1, r1⟩
    · rcases hit _ _ _ _ e' hr' with ⟨rfl, _⟩ | ⟨_, e2, r2⟩
      · exact absurd rfl hne
      · have := hi.iter_lt e2 r2; omega
    · rcases hit _ _ _ _ e' hr' with ⟨rfl, rfl, rfl, rfl⟩ | ⟨_, e2, r2⟩
      · have := hi.iter_lt e1 r1; omega
      · exact hi.iown B q p r hl e1 r1 B' q' p' r' hne e2 r2
  · rintro ⟨B, hl, ⟨es', x, e, hs', hx⟩ | ⟨q, p, e, hr⟩⟩
    · exact hno ⟨B, hl, .inl ⟨es', x, hget _ _ (hsd _ _ _ hs') e, hs', hx⟩⟩
    · rcases hit _ _ _ _ e hr with ⟨rfl, rfl, rfl, rfl⟩ | ⟨_, e1, r1⟩
      · exact absurd hbl (Nat.lt_irrefl _)
      · exact hno ⟨B, hl, .inr ⟨q, p, e1, r1⟩⟩

/-- An iterator goes on. -/
theorem set_iter (hi : HInv T G lo h w) {B : Nat} {s : List UInt8} {pos pos' r : Nat} (hlo : lo ≤ B) (hB : h[B]? = some (.iter s pos)) (hr : G.io B = some r) (hs : w'.heap.size = w.heap.size)
    (hk : ∀ b, b < w.heap.size → b ≠ r → w'.heap[b]? = w.heap[b]?) (hos : w'.os = w.os) (ht : w'.tape = w.tape) (ho : w'.output = w.output) {s' : ByteArray} (hs' : s'.data.toList = s)
    (hb : w'.heap[r]? = some (.stringIter s' pos')) : HInv T G lo (h.set B (.iter s pos')) w' ∧ Stp lo G h w G (h.set B (.iter s pos')) w' := by
  have set_arr : ∀ B' es'', (h.set B (.iter s pos'))[B']? = some (.arr es'') → B' ≠ B ∧ h[B']? = some (.arr es'') := by
    intro B' es'' e
    rcases get_set e with ⟨_, h2, _⟩ | h1
    · cases h2
    · exact h1
  have set_it : ∀ B' q p, (h.set B (.iter s pos'))[B']? = some (.iter q p) → (B' = B ∧ q = s ∧ p = pos') ∨ (B' ≠ B ∧ h[B']? = some (.iter q p)) := by
    intro B' q p e
    rcases get_set e with ⟨h1, h2, _⟩ | h1
    · cases h2; exact .inl ⟨h1, rfl, rfl⟩
    · exact .inr h1
  obtain ⟨s0, _, hr0⟩ := hi.iter B s pos r hB hr
  have cellr : ∀ b off v, w.cell? ⟨b, off, none⟩ = some v → b ≠ r := by
    rintro b off v e rfl
    simp [World.cell?, hr0] at e
  have arrr : ∀ B' es'' x, h[B']? = some (.arr es'') → G.sg B' es''.length = some x → x.b ≠ r := by
    rintro B' es'' x e hx rfl
    obtain ⟨c', t', fz', h1, _⟩ := hi.live _ _ _ e hx
    rw [hr0] at h1; cases h1
  refine ⟨⟨fun b off v e => ?_, fun b off v e => ?_, by rw [List.length_set]; exact hi.llo, by rw [List.length_set]; exact hi.nle, hi.sdom, hi.idom, fun B' es'' ep x e hx => ?_, fun B' es'' x e hx => ?_, fun B' q p r' e hr' => ?_, fun B' es'' x hl e hx => ?_,
      fun B' q p r1 hl e h1 B'' q' p' r2 hne e' h2 => ?_⟩, ⟨G.le_refl, hos, ht, ho, by omega, fun b hb' hno => ⟨?_, fun _ => rfl, ?_⟩, rfl, fun _ _ => ⟨fun _ => rfl, rfl⟩, .other (fun _ => by simp) fun _ _ => rfl⟩⟩
  · have := hi.gp _ _ _ e
    rw [cell_block (hk b (hi.gp_lt e) (cellr _ _ _ this))]; exact this
  · have := hi.gb _ _ _ e
    rw [cell_block (hk b (hi.gb_lt e) (cellr _ _ _ this))]; exact this
  · exact hi.eple _ _ _ _ (set_arr _ _ e).2 hx
  · obtain ⟨c', t', fz', h1, h2⟩ := hi.live _ _ _ (set_arr _ _ e).2 hx
    exact ⟨c', t', fz', by rw [hk _ (heap_lt h1) (arrr _ _ _ (set_arr _ _ e).2 hx)]; exact h1, h2⟩
  · rcases set_it _ _ _ e with ⟨rfl, rfl, rfl⟩ | ⟨hne, e'⟩
    · rw [hr] at hr'; simp only [Option.some.injEq] at hr'; subst hr'
      exact ⟨s', hs', hb⟩
    · obtain ⟨q', h1, h2⟩ := hi.iter _ _ _ _ e' hr'
      exact ⟨q', h1, by rw [hk _ (heap_lt h2) (hi.iown B s pos r hlo hB hr B' q p r' hne e' hr')]; exact h2⟩
  · obtain ⟨h1, h2⟩ := hi.own _ _ _ hl (set_arr _ _ e).2 hx
    exact ⟨h1, fun B'' es3 g' hne e3 hs3 => h2 B'' es3 g' hne (set_arr _ _ e3).2 hs3⟩
  · have k1 : ∃ q p, h[B']? = some (.iter q p) := by
      rcases set_it _ _ _ e with ⟨rfl, rfl, rfl⟩ | ⟨_, e1⟩
      · exact ⟨_, _, hB⟩
      · exact ⟨_, _, e1⟩
    have k2 : ∃ q p, h[B'']? = some (.iter q p) := by
      rcases set_it _ _ _ e' with ⟨rfl, rfl, rfl⟩ | ⟨_, e1⟩
      · exact ⟨_, _, hB⟩
      · exact ⟨_, _, e1⟩
    obtain ⟨_, _, k1⟩ := k1
    obtain ⟨_, _, k2⟩ := k2
    exact hi.iown B' _ _ r1 hl k1 h1 B'' _ _ r2 hne k2 h2
  · exact hk b hb' fun hh => hno ⟨B, hlo, .inr ⟨s, pos, hB, by rw [hh]; exact hr⟩⟩
  · rintro ⟨B', hl, ⟨es', x, e, hx, hb2⟩ | ⟨q, p, e, h1⟩⟩
    · exact hno ⟨B', hl, .inl ⟨es', x, (set_arr _ _ e).2, hx, hb2⟩⟩
    · rcases set_it _ _ _ e with ⟨rfl, rfl, rfl⟩ | ⟨_, e1⟩
      · exact hno ⟨B', hl, .inr ⟨_, _, hB, h1⟩⟩
      · exact hno ⟨B', hl, .inr ⟨q, p, e1, h1⟩⟩

end
end Go.VE
