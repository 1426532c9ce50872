/- Steps of memory: a new block, a store into a block of the call's own. -/
import Derived.Test.YtgkdconajdjkgaaGreatVeOps3
namespace Go.VE
set_option linter.unusedVariables false
set_option linter.unnecessarySimpa false
set_option linter.unusedSimpArgs false

section
variable {P : Program} {T : Tbl} {G : Gh} {w w' : World} {lo : Nat} {h : Heap}

theorem cell_block {w w' : World} {b off : Nat} (e : w'.heap[b]? = w.heap[b]?) : w'.cell? ⟨b, off, none⟩ = w.cell? ⟨b, off, none⟩ := by
  simp only [World.cell?, e]

theorem cell_lt {w : World} {b off : Nat} {v : Value} (e : w.cell? ⟨b, off, none⟩ = some v) : b < w.heap.size := by
  rcases Nat.lt_or_ge b w.heap.size with h | h
  · exact h
  · simp [World.cell?, Array.getElem?_eq_none h] at e

theorem HInv.gp_lt (hi : HInv T G lo h w) {b off : Nat} {v : Value} (e : G.Gp b off = some v) : b < w.heap.size := cell_lt (hi.gp _ _ _ e)
theorem HInv.gb_lt (hi : HInv T G lo h w) {b off : Nat} {v : Value} (e : G.Gb b off = some v) : b < w.heap.size := cell_lt (hi.gb _ _ _ e)

theorem heap_lt {w : World} {b : Nat} {o : Obj} (e : w.heap[b]? = some o) : b < w.heap.size := by
  rcases Nat.lt_or_ge b w.heap.size with h | h
  · exact h
  · rw [Array.getElem?_eq_none h] at e; simp at e

theorem HInv.live_lt (hi : HInv T G lo h w) {B : Nat} {es : List V} {g : Img} (e : h[B]? = some (.arr es)) (hs : G.sg B es.length = some g) : g.b < w.heap.size := by
  obtain ⟨c, t, fz, h1, _⟩ := hi.live B es g e hs
  exact heap_lt h1

theorem HInv.iter_lt (hi : HInv T G lo h w) {B : Nat} {s : List UInt8} {pos r : Nat} (e : h[B]? = some (.iter s pos)) (hs : G.io B = some r) : r < w.heap.size := by
  obtain ⟨s', _, h1⟩ := hi.iter B s pos r e hs
  exact heap_lt h1

theorem HInv.own_lt (hi : HInv T G lo h w) {b : Nat} (ho : Own G lo h b) : b < w.heap.size := by
  obtain ⟨B, _, ⟨es, g, h1, h2, rfl⟩ | ⟨s, pos, h1, h2⟩⟩ := ho
  · exact hi.live_lt h1 h2
  · exact hi.iter_lt h1 h2

/-- The world may grow at its end. -/
theorem HInv.grow (hi : HInv T G lo h w) (hs : w.heap.size ≤ w'.heap.size) (hk : ∀ b, b < w.heap.size → w'.heap[b]? = w.heap[b]?) : HInv T G lo h w' where
  gp b off v e := by rw [cell_block (hk b (hi.gp_lt e))]; exact hi.gp _ _ _ e
  gb b off v e := by rw [cell_block (hk b (hi.gb_lt e))]; exact hi.gb _ _ _ e
  llo := hi.llo
  nle := hi.nle
  sdom := hi.sdom
  idom := hi.idom
  eple := hi.eple
  live B es g e hg := by
    obtain ⟨c, t, fz, h1, h2⟩ := hi.live B es g e hg
    exact ⟨c, t, fz, by rw [hk _ (heap_lt h1)]; exact h1, h2⟩
  iter B s pos r e hr := by
    obtain ⟨s', h1, h2⟩ := hi.iter B s pos r e hr
    exact ⟨s', h1, by rw [hk _ (heap_lt h2)]; exact h2⟩
  own := hi.own
  iown := hi.iown

theorem Stp.grow (hos : w'.os = w.os) (ht : w'.tape = w.tape) (ho : w'.output = w.output) (hs : w.heap.size ≤ w'.heap.size) (hk : ∀ b, b < w.heap.size → w'.heap[b]? = w.heap[b]?) :
    Stp lo G h w G h w' :=
  ⟨G.le_refl, hos, ht, ho, hs, fun b hb hn => ⟨hk b hb, fun _ => rfl, hn⟩, rfl, fun _ _ => ⟨fun _ => rfl, rfl⟩, .same fun _ _ => rfl⟩

/-- More cells are known to stay. -/
def Gh.addP (G : Gh) (n : Nat) (c : Nat → Nat → Option Value) : Gh := { G with Gp := fun b off => if b < n then G.Gp b off else c b off }

/-- Blocks from n on that nobody may write become cells that stay for ever. -/
theorem HInv.addP (hi : HInv T G lo h w) {n : Nat} {c : Nat → Nat → Option Value} (hc : ∀ b off v, n ≤ b → c b off = some v → w.cell? ⟨b, off, none⟩ = some v)
    (hg : ∀ b off v, G.Gp b off = some v → b < n) (hown : ∀ b, Own G lo h b → b < n) : HInv T (G.addP n c) lo h w ∧ G.le (G.addP n c) := by
  have hle : G.le (G.addP n c) := ⟨fun b off v e => by simp only [Gh.addP]; rw [if_pos (hg b off v e)]; exact e, fun _ _ _ e => e, fun _ _ _ e => e, fun _ _ e => e, Nat.le_refl _⟩
  refine ⟨⟨fun b off v e => ?_, hi.gb, hi.llo, hi.nle, hi.sdom, hi.idom, hi.eple, fun B es g e hs => ?_, hi.iter, fun B es g hl e hs => ?_, hi.iown⟩, hle⟩
  · simp only [Gh.addP] at e
    split at e
    · exact hi.gp _ _ _ e
    · exact hc b off v (by omega) e
  · obtain ⟨c', t, fz, h1, h2, h3, h4, h6⟩ := hi.live B es g e hs
    exact ⟨c', t, fz, h1, h2, h3, h4, h6.mono hle⟩
  · obtain ⟨h1, h2⟩ := hi.own B es g hl e hs
    refine ⟨fun off => ⟨?_, (h1 off).2⟩, h2⟩
    simp only [Gh.addP]
    rw [if_pos (hown g.b ⟨B, hl, .inl ⟨es, g, e, hs, rfl⟩⟩)]
    exact (h1 off).1

theorem Stp.addP (hi : HInv T G lo h w) {n : Nat} {c : Nat → Nat → Option Value} (hn : w.heap.size ≤ n) (hg : ∀ b off v, G.Gp b off = some v → b < n) : Stp lo G h w (G.addP n c) h w :=
  ⟨⟨fun b off v e => by simp only [Gh.addP]; rw [if_pos (hg b off v e)]; exact e, fun _ _ _ e => e, fun _ _ _ e => e, fun _ _ e => e, Nat.le_refl _⟩, rfl, rfl, rfl, Nat.le_refl _,
   fun b hb hno => ⟨rfl, fun off => by simp only [Gh.addP]; rw [if_pos (by omega)], fun ⟨B, hl, hx⟩ => hno ⟨B, hl, hx⟩⟩, rfl, fun _ _ => ⟨fun _ => rfl, rfl⟩, .same fun _ _ => rfl⟩

/-- A new block of the model whose cells stay for ever. -/
theorem new_perm (hi : HInv T G lo h w) (hs : w'.heap.size = w.heap.size + 1) (hk : ∀ b, b < w.heap.size → w'.heap[b]? = w.heap[b]?) (hos : w'.os = w.os) (ht : w'.tape = w.tape) (ho : w'.output = w.output) :
    ∃ G', HInv T G' lo h w' ∧ Stp lo G h w G' h w' ∧ ∀ off v, w'.cell? ⟨w.heap.size, off, none⟩ = some v → G'.Gp w.heap.size off = some v := by
  have hi' := hi.grow (w' := w') (by omega) hk
  have h1 := hi'.addP (n := w.heap.size) (c := fun b off => w'.cell? ⟨b, off, none⟩) (fun b off v _ e => e) (fun b off v e => hi.gp_lt e) (fun b hb => hi.own_lt hb)
  refine ⟨_, h1.1, ?_, fun off v e => ?_⟩
  · refine ⟨h1.2, hos, ht, ho, by omega, fun b hb hno => ⟨hk b hb, fun off => ?_, fun ⟨B, hl, hx⟩ => hno ⟨B, hl, hx⟩⟩, rfl, fun _ _ => ⟨fun _ => rfl, rfl⟩, .same fun _ _ => rfl⟩
    simp only [Gh.addP]; rw [if_pos hb]
  · simp only [Gh.addP]; rw [if_neg (Nat.lt_irrefl _)]; exact e

/-- A new block of the evaluator's, for a new block of the model's. -/
theorem new_block (hi : HInv T G lo h w) (hs : w'.heap.size = w.heap.size + 1) (hk : ∀ b, b < w.heap.size → w'.heap[b]? = w.heap[b]?) (hos : w'.os = w.os) (ht : w'.tape = w.tape) (ho : w'.output = w.output)
    {es : List V} {z : Nat} {c : Array Value} {t : TypeId} {fz : Nat × Nat} (hb : w'.heap[w.heap.size]? = some (.cells c t fz)) (hfz : ∀ off, off < c.size → ¬ (fz.1 ≤ off ∧ off < fz.2)) 
    (hm : es.length * z ≤ c.size) (hold : Holds T G c 0 z es) :
    ∃ G', HInv T G' lo (h ++ [.arr es]) w' ∧ Stp lo G h w G' (h ++ [.arr es]) w' ∧ G'.sg h.length es.length = some ⟨w.heap.size, 0, z, c.size⟩ ∧ h.length < G'.n := by
  let g : Img := ⟨w.heap.size, 0, z, c.size⟩
  have hsd : ∀ B ep x, G.sg B ep = some x → B < h.length := fun B ep x e => Nat.lt_of_lt_of_le (hi.sdom _ _ _ e) hi.nle
  let G' : Gh := { G with sg := fun B ep => if B = h.length ∧ ep = es.length then some g else G.sg B ep, n := h.length + 1 }
  have hle : G.le G' := ⟨fun _ _ _ e => e, fun _ _ _ e => e, fun B ep x e => by
    have : B < h.length := hsd _ _ _ e
    show (if B = h.length ∧ ep = es.length then some g else G.sg B ep) = some x
    rw [if_neg (by omega)]; exact e, fun _ _ e => e, by have := hi.nle; show G.n ≤ h.length + 1; omega⟩
  have hget : ∀ B b, (h ++ [Blk.arr es])[B]? = some b → (B < h.length ∧ h[B]? = some b) ∨ (B = h.length ∧ b = .arr es) := by
    intro B b e
    rcases Nat.lt_trichotomy B h.length with hl | hl | hl
    · rw [List.getElem?_append_left hl] at e; exact .inl ⟨hl, e⟩
    · subst hl; rw [List.getElem?_append_right (Nat.le_refl _)] at e; simp at e; exact .inr ⟨rfl, e.symm⟩
    · rw [List.getElem?_eq_none (by simp; omega)] at e; simp at e
  have hsg : ∀ B ep x, B < h.length → G'.sg B ep = some x → G.sg B ep = some x := by
    intro B ep x hB e
    have : (if B = h.length ∧ ep = es.length then some g else G.sg B ep) = some x := e
    rwa [if_neg (by omega)] at this
  have hsgn : ∀ ep x, G'.sg h.length ep = some x → x = g := by
    intro ep x e
    have e' : (if h.length = h.length ∧ ep = es.length then some g else G.sg h.length ep) = some x := e
    split at e'
    · simpa using e'.symm
    · exact absurd (hsd _ _ _ e') (Nat.lt_irrefl _)
  have hi' := hi.grow (w' := w') (by omega) hk
  refine ⟨G', ⟨hi'.gp, hi'.gb, by have := hi.llo; simp; omega, by simp [G'], fun B ep x e => ?_, fun B r e => ?_, fun B es' ep x e hs' => ?_, fun B es' x e hs' => ?_, fun B s pos r e hr => ?_, fun B es' x hl e hs' => ?_, fun B s pos r hl e hr B' s' pos' r' hne e' hr' => ?_⟩, ⟨hle, hos, ht, ho, by omega, fun b hbl hno => ⟨hk b hbl, fun _ => rfl, ?_⟩, rfl, fun B hB => ⟨fun ep => if_neg (by have := hi.llo; omega), rfl⟩, .push fun B ep hB => if_neg (by omega)⟩, ?_, Nat.lt_succ_self _⟩
  · show B < h.length + 1
    have e' : (if B = h.length ∧ ep = es.length then some g else G.sg B ep) = some x := e
    split at e'
    · omega
    · have := hsd _ _ _ e'; omega
  · have := hi.idom _ _ e; have := hi.nle; show B < h.length + 1; omega
  · rcases hget B _ e with ⟨hB, e'⟩ | ⟨rfl, e'⟩
    · exact hi.eple B es' ep x e' (hsg _ _ _ hB hs')
    · cases e'
      have e2 : (if h.length = h.length ∧ ep = es.length then some g else G.sg h.length ep) = some x := hs'
      split at e2
      · omega
      · exact absurd (hsd _ _ _ e2) (Nat.lt_irrefl _)
  · rcases hget B _ e with ⟨hB, e'⟩ | ⟨rfl, e'⟩
    · obtain ⟨c', t', fz', h1, h2, h3, h4, h6⟩ := hi'.live B es' x e' (hsg _ _ _ hB hs')
      exact ⟨c', t', fz', h1, h2, h3, h4, h6.mono hle⟩
    · obtain rfl := hsgn _ _ hs'
      cases e'
      exact ⟨c, t, fz, hb, rfl, hfz, by simpa [g] using hm, hold.mono hle⟩
  · rcases hget B _ e with ⟨hB, e'⟩ | ⟨rfl, e'⟩
    · exact hi'.iter B s pos r e' hr
    · cases e'
  · have key : ∀ B' es'' x', (h ++ [Blk.arr es])[B']? = some (.arr es'') → G'.sg B' es''.length = some x' → (B' < h.length ∧ h[B']? = some (.arr es'') ∧ G.sg B' es''.length = some x' ∧ x'.b < w.heap.size) ∨ (B' = h.length ∧ x' = g) := by
      intro B' es'' x' e1 e2
      rcases hget B' _ e1 with ⟨hB, e'⟩ | ⟨rfl, e'⟩
      · have := hsg _ _ _ hB e2
        exact .inl ⟨hB, e', this, hi.live_lt e' this⟩
      · exact .inr ⟨rfl, hsgn _ _ e2⟩
    rcases key B es' x e hs' with ⟨hB, e1, e2, e3⟩ | ⟨rfl, rfl⟩
    · obtain ⟨h1, h2⟩ := hi'.own B es' x hl e1 e2
      refine ⟨h1, fun B' es'' g' hne e1' e2' => ?_⟩
      rcases key B' es'' g' e1' e2' with ⟨hB', k1, k2, k3⟩ | ⟨rfl, rfl⟩
      · exact h2 B' es'' g' hne k1 k2
      · show w.heap.size ≠ x.b; omega
    · refine ⟨fun off => ⟨?_, ?_⟩, fun B' es'' g' hne e1' e2' => ?_⟩
      · show G.Gp w.heap.size off = none
        cases hgp : G.Gp w.heap.size off with
        | none => rfl
        | some v => exact absurd (hi.gp_lt hgp) (Nat.lt_irrefl _)
      · show G.Gb w.heap.size off = none
        cases hgp : G.Gb w.heap.size off with
        | none => rfl
        | some v => exact absurd (hi.gb_lt hgp) (Nat.lt_irrefl _)
      · rcases key B' es'' g' e1' e2' with ⟨hB', k1, k2, k3⟩ | ⟨rfl, rfl⟩
        · show g'.b ≠ w.heap.size; omega
        · exact absurd rfl hne
  · rcases hget B _ e with ⟨hB, e1⟩ | ⟨rfl, e1⟩
    · rcases hget B' _ e' with ⟨hB', e1'⟩ | ⟨rfl, e1'⟩
      · exact hi'.iown B s pos r hl e1 hr B' s' pos' r' hne e1' hr'
      · cases e1'
    · cases e1
  · rintro ⟨B, hl, ⟨es', x, e, hs', rfl⟩ | ⟨s, pos, e, hr⟩⟩
    · rcases hget B _ e with ⟨hB, e'⟩ | ⟨rfl, e'⟩
      · exact hno ⟨B, hl, .inl ⟨es', x, e', hsg _ _ _ hB hs', rfl⟩⟩
      · obtain rfl := hsgn _ _ hs'
        exact absurd hbl (Nat.lt_irrefl _)
    · rcases hget B _ e with ⟨hB, e'⟩ | ⟨rfl, e'⟩
      · exact hno ⟨B, hl, .inr ⟨s, pos, e', hr⟩⟩
      · cases e'
  · show (if h.length = h.length ∧ es.length = es.length then some g else G.sg h.length es.length) = _
    rw [if_pos ⟨rfl, rfl⟩]


theorem get_set {h : Heap} {B B' : Nat} {x b : Blk} (e : (h.set B x)[B']? = some b) : (B' = B ∧ b = x ∧ B < h.length) ∨ (B' ≠ B ∧ h[B']? = some b) := by
  rw [List.getElem?_set] at e
  split at e
  · rename_i hB
    subst hB
    split at e
    · rename_i hl; simp at e; exact .inl ⟨rfl, e.symm, hl⟩
    · simp at e
  · rename_i hB
    exact .inr ⟨fun hh => hB hh.symm, e⟩

/-- Block B, owned, gets new contents: in its place (the block of the model is written), or in a new block of the model. -/
theorem set_block (hi : HInv T G lo h w) {B : Nat} {es es' : List V} (hlo : lo ≤ B) (hB : h[B]? = some (.arr es)) {g : Img}
    (hsz : w.heap.size ≤ w'.heap.size) (hos : w'.os = w.os) (ht : w'.tape = w.tape) (ho : w'.output = w.output)
    (hk : ∀ b, b < w.heap.size → b ≠ g.b → w'.heap[b]? = w.heap[b]?)
    (hlen : es.length ≤ es'.length)
    (hg : (G.sg B es.length = some g) ∨ (g.b = w.heap.size ∧ es.length < es'.length))
    {c : Array Value} {t : TypeId} {fz : Nat × Nat} (hb : w'.heap[g.b]? = some (.cells c t fz)) (hc : c.size = g.m) (hfz : ∀ off, off < c.size → ¬ (fz.1 ≤ off ∧ off < fz.2))
    (hm : g.o + es'.length * g.z ≤ g.m) (hold : Holds T G c g.o g.z es') :
    ∃ G', HInv T G' lo (h.set B (.arr es')) w' ∧ Stp lo G h w G' (h.set B (.arr es')) w' ∧ G'.sg B es'.length = some g ∧ B < G'.n := by
  have hBl : B < h.length := (List.getElem?_eq_some_iff.1 hB).1
  let G' : Gh := { G with sg := fun B' ep => if B' = B ∧ ep = es'.length then some g else G.sg B' ep, n := max G.n (B + 1) }
  have hsgd : ∀ B' ep, G'.sg B' ep = if B' = B ∧ ep = es'.length then some g else G.sg B' ep := fun _ _ => rfl
  have hle : G.le G' := by
    refine ⟨fun _ _ _ e => e, fun _ _ _ e => e, fun B' ep x e => ?_, fun _ _ e => e, Nat.le_max_left _ _⟩
    rw [hsgd]
    split
    · rename_i hh
      obtain ⟨rfl, rfl⟩ := hh
      have := hi.eple _ _ _ _ hB e
      rcases hg with hg | ⟨_, hg⟩
      · have hl : es'.length = es.length := by omega
        rw [hl, hg] at e; exact e
      · omega
    · exact e
  -- where another live block lies
  have oth : ∀ B' es'' x, B' ≠ B → h[B']? = some (.arr es'') → G.sg B' es''.length = some x → x.b ≠ g.b ∧ x.b < w.heap.size := by
    intro B' es'' x hne e hs
    have hlt := hi.live_lt e hs
    refine ⟨?_, hlt⟩
    rcases hg with hg | ⟨hg, _⟩
    · exact (hi.own B es g hlo hB hg).2 B' es'' x hne e hs
    · omega
  have gpn : ∀ off, G.Gp g.b off = none ∧ G.Gb g.b off = none := by
    intro off
    rcases hg with hg | ⟨hg, _⟩
    · exact (hi.own B es g hlo hB hg).1 off
    · constructor
      · cases hgp : G.Gp g.b off with
        | none => rfl
        | some v => have := hi.gp_lt hgp; omega
      · cases hgp : G.Gb g.b off with
        | none => rfl
        | some v => have := hi.gb_lt hgp; omega
  have itn : ∀ B' s pos r, h[B']? = some (.iter s pos) → G.io B' = some r → r ≠ g.b := by
    intro B' s pos r e hr heq
    have hlt := hi.iter_lt e hr
    rcases hg with hg | ⟨hg, _⟩
    · obtain ⟨c', t', fz', h1, _⟩ := hi.live B es g hB hg
      obtain ⟨s', _, h2⟩ := hi.iter B' s pos r e hr
      rw [heq, h1] at h2; cases h2
    · omega
  have set_arr : ∀ B' es'', (h.set B (.arr es'))[B']? = some (.arr es'') → (B' = B ∧ es'' = es') ∨ (B' ≠ B ∧ h[B']? = some (.arr es'')) := by
    intro B' es'' e
    rcases get_set e with ⟨h1, h2, _⟩ | h1
    · cases h2; exact .inl ⟨h1, rfl⟩
    · exact .inr h1
  have set_it : ∀ B' s pos, (h.set B (.arr es'))[B']? = some (.iter s pos) → B' ≠ B ∧ h[B']? = some (.iter s pos) := by
    intro B' s pos e
    rcases get_set e with ⟨h1, h2, _⟩ | h1
    · cases h2
    · exact h1
  refine ⟨G', ⟨fun b off v e => ?_, fun b off v e => ?_, by rw [List.length_set]; exact hi.llo, by rw [List.length_set]; have := hi.nle; show max G.n (B + 1) ≤ h.length; omega, fun B' ep x e => ?_, fun B' r e => ?_, fun B' es'' ep x e hs => ?_, fun B' es'' x e hs => ?_, fun B' s pos r e hr => ?_,
    fun B' es'' x hl e hs => ?_, fun B' s pos r hl e hr B'' s' pos' r' hne e' hr' => ?_⟩, ⟨hle, hos, ht, ho, hsz, fun b hbl hno => ⟨?_, fun _ => rfl, ?_⟩, rfl, fun B' hB' => ⟨fun ep => by rw [hsgd, if_neg (by omega)], rfl⟩, .setArr hB hlen (fun B' ep hne => by rw [hsgd, if_neg (by omega)]) (fun hl => by rcases hg with hg | ⟨_, hg⟩; rw [hg]; rfl; omega)⟩, ?_, by show B < max G.n (B + 1); omega⟩
  · have e' : G.Gp b off = some v := e
    have hne : b ≠ g.b := by rintro rfl; rw [(gpn off).1] at e'; simp at e'
    rw [cell_block (hk b (hi.gp_lt e') hne)]; exact hi.gp _ _ _ e'
  · have e' : G.Gb b off = some v := e
    have hne : b ≠ g.b := by rintro rfl; rw [(gpn off).2] at e'; simp at e'
    rw [cell_block (hk b (hi.gb_lt e') hne)]; exact hi.gb _ _ _ e'
  · rw [hsgd] at e
    show B' < max G.n (B + 1)
    split at e
    · omega
    · have := hi.sdom _ _ _ e; omega
  · have := hi.idom _ _ e; show B' < max G.n (B + 1); omega
  · rw [hsgd] at hs
    rcases set_arr _ _ e with ⟨rfl, rfl⟩ | ⟨hne, e'⟩
    · split at hs
      · omega
      · have := hi.eple _ _ _ _ hB hs; omega
    · rw [if_neg (by omega)] at hs
      exact hi.eple _ _ _ _ e' hs
  · rw [hsgd] at hs
    rcases set_arr _ _ e with ⟨rfl, rfl⟩ | ⟨hne, e'⟩
    · rw [if_pos ⟨rfl, rfl⟩] at hs
      simp only [Option.some.injEq] at hs; subst hs
      exact ⟨c, t, fz, hb, hc, hfz, hm, hold.mono hle⟩
    · rw [if_neg (by omega)] at hs
      obtain ⟨c', t', fz', h1, h2, h3, h4, h6⟩ := hi.live B' es'' x e' hs
      have := oth B' es'' x hne e' hs
      exact ⟨c', t', fz', by rw [hk _ this.2 this.1]; exact h1, h2, h3, h4, h6.mono hle⟩
  · obtain ⟨hne, e'⟩ := set_it _ _ _ e
    obtain ⟨s', h1, h2⟩ := hi.iter B' s pos r e' hr
    exact ⟨s', h1, by rw [hk _ (heap_lt h2) (itn _ _ _ _ e' hr)]; exact h2⟩
  · rw [hsgd] at hs
    rcases set_arr _ _ e with ⟨rfl, rfl⟩ | ⟨hne, e'⟩
    · rw [if_pos ⟨rfl, rfl⟩] at hs
      simp only [Option.some.injEq] at hs; subst hs
      refine ⟨gpn, fun B'' es3 x' hne' e3 hs3 => ?_⟩
      rw [hsgd, if_neg (by omega)] at hs3
      rcases set_arr _ _ e3 with ⟨rfl, rfl⟩ | ⟨_, e3'⟩
      · exact absurd rfl hne'
      · exact (oth B'' es3 x' hne' e3' hs3).1
    · rw [if_neg (by omega)] at hs
      obtain ⟨h1, h2⟩ := hi.own B' es'' x hl e' hs
      refine ⟨h1, fun B'' es3 x' hne' e3 hs3 => ?_⟩
      rw [hsgd] at hs3
      rcases set_arr _ _ e3 with ⟨rfl, rfl⟩ | ⟨hne3, e3'⟩
      · rw [if_pos ⟨rfl, rfl⟩] at hs3
        simp only [Option.some.injEq] at hs3; subst hs3
        exact fun hh => (oth B' es'' x hne e' hs).1 hh.symm
      · rw [if_neg (by omega)] at hs3
        exact h2 B'' es3 x' hne' e3' hs3
  · obtain ⟨hn1, e1⟩ := set_it _ _ _ e
    obtain ⟨hn2, e2⟩ := set_it _ _ _ e'
    exact hi.iown B' s pos r hl e1 hr B'' s' pos' r' hne e2 hr'
  · refine hk b hbl fun hh => ?_
    rcases hg with hg | ⟨hg, _⟩
    · exact hno ⟨B, hlo, .inl ⟨es, g, hB, hg, hh.symm⟩⟩
    · omega
  · rintro ⟨B', hl, ⟨es'', x, e, hs, rfl⟩ | ⟨s, pos, e, hr⟩⟩
    · rw [hsgd] at hs
      rcases set_arr _ _ e with ⟨rfl, rfl⟩ | ⟨hne, e'⟩
      · rw [if_pos ⟨rfl, rfl⟩] at hs
        simp only [Option.some.injEq] at hs; subst hs
        rcases hg with hg | ⟨hg, _⟩
        · exact hno ⟨B', hl, .inl ⟨es, _, hB, hg, rfl⟩⟩
        · omega
      · rw [if_neg (by omega)] at hs
        exact hno ⟨B', hl, .inl ⟨es'', x, e', hs, rfl⟩⟩
    · obtain ⟨hne, e'⟩ := set_it _ _ _ e
      exact hno ⟨B', hl, .inr ⟨s, pos, e', hr⟩⟩
  · rw [hsgd, if_pos ⟨rfl, rfl⟩]

end
end Go.VE
