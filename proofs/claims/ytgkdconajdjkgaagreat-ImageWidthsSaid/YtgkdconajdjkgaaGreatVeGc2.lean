/- The begin and the end of a call that writes nothing of what was there; the values that go in and come out. -/
import Derived.Test.YtgkdconajdjkgaaGreatVeGc
namespace Go.VE
set_option linter.unusedVariables false
set_option linter.unnecessarySimpa false
set_option linter.unusedSimpArgs false
open Classical

section
variable {P : Program} {T : Tbl} {G : Gh} {w w' : World} {lo : Nat} {h : Heap}

theorem optL_get {f : V → Option V} : ∀ {l l' : List V}, optL f l = some l' → l'.length = l.length ∧ (∀ (i : Nat) (v : V), l[i]? = some v → ∃ v', l'[i]? = some v' ∧ f v = some v') ∧
    (∀ (i : Nat) (v' : V), l'[i]? = some v' → ∃ v, l[i]? = some v ∧ f v = some v')
  | [], l', e => by simp [optL] at e; subst e; simp
  | x :: l, l', e => by
    simp only [optL, Option.bind_eq_some_iff, Option.map_eq_some_iff] at e
    obtain ⟨x', hx, l'', hl, rfl⟩ := e
    obtain ⟨h1, h2, h3⟩ := optL_get hl
    refine ⟨by simp [h1], fun i v hv => ?_, fun i v hv => ?_⟩
    · cases i with
      | zero => simp at hv; subst hv; exact ⟨x', by simp, hx⟩
      | succ i => simpa using h2 i v (by simpa using hv)
    · cases i with
      | zero => simp at hv; subst hv; exact ⟨x, by simp, hx⟩
      | succ i => simpa using h3 i v (by simpa using hv)

theorem seen_some {B ep off len : Nat} {es : List V} (e : seen h B ep off len = some es) : ∃ es0, h[B]? = some (.arr es0) ∧ es0.length = ep ∧ off + len ≤ ep ∧ es = (es0.drop off).take len := by
  unfold seen at e
  split at e
  · rename_i es0 h0
    split at e
    · rename_i hc; simp at e; exact ⟨es0, h0, hc.1, hc.2, e.symm⟩
    · simp at e
  · simp at e

theorem frz_closed {lo : Nat} {h : Heap} {d : Nat} {v : V} (hc : closedB v = true) : frz lo h d v = some v := by
  cases d <;> simp [frz, hc]

/-- The cells of a frozen value are its cells, frozen. -/
theorem frz_cells {lo : Nat} {h : Heap} {d : Nat} {e e' : V} (hf : frz lo h d e = some e') : e'.cells.length = e.cells.length ∧
    ∀ (j : Nat) (c' : V), e'.cells[j]? = some c' → ∃ d' c, d' ≤ d ∧ e.cells[j]? = some c ∧ frz lo h d' c = some c' := by
  by_cases hc : closedB e = true
  · rw [frz_closed hc] at hf
    simp only [Option.some.injEq] at hf; subst hf
    exact ⟨rfl, fun j c' hj => ⟨d, c', Nat.le_refl _, hj, frz_closed (closed_cells hc hj)⟩⟩
  · cases d with
    | zero => simp [frz, hc] at hf
    | succ d =>
      have scalar : e.cells = [e] → e'.cells = [e'] → e'.cells.length = e.cells.length ∧
          ∀ (j : Nat) (c' : V), e'.cells[j]? = some c' → ∃ d' c, d' ≤ d + 1 ∧ e.cells[j]? = some c ∧ frz lo h d' c = some c' := by
        intro h1 h2
        rw [h1, h2]
        refine ⟨rfl, fun j c' hj => ?_⟩
        cases j with
        | zero => simp at hj; subst hj; exact ⟨d + 1, e, Nat.le_refl _, by simp, hf⟩
        | succ j => simp at hj
      have hf' := hf
      simp only [frz, hc, Bool.false_eq_true, if_false] at hf
      cases e <;> simp only at hf <;> try contradiction
      case gsl B ep z off len =>
        split at hf
        · simp at hf; subst hf; exact scalar rfl rfl
        · simp only [Option.bind_eq_some_iff, Option.map_eq_some_iff] at hf
          obtain ⟨es, _, es', _, rfl⟩ := hf
          exact scalar rfl rfl
      case ptr B ep i o =>
        split at hf
        · simp at hf; subst hf; exact scalar rfl rfl
        · split at hf
          · split at hf
            · simp only [Option.bind_eq_some_iff, Option.map_eq_some_iff] at hf
              obtain ⟨_, _, _, _, rfl⟩ := hf
              exact scalar rfl rfl
            · simp at hf
          · simp at hf
      case tup vs =>
        simp only [Option.map_eq_some_iff] at hf
        obtain ⟨_, _, rfl⟩ := hf
        exact scalar rfl rfl
      case agg vs =>
        simp only [Option.map_eq_some_iff] at hf
        obtain ⟨vs', h1, rfl⟩ := hf
        obtain ⟨k1, k2, k3⟩ := optL_get h1
        refine ⟨k1, fun j c' hj => ?_⟩
        obtain ⟨c, hc1, hc2⟩ := k3 j c' hj
        exact ⟨d, c, by omega, hc1, hc2⟩
      case iface t v =>
        simp only [Option.map_eq_some_iff] at hf
        obtain ⟨_, _, rfl⟩ := hf
        exact scalar rfl rfl

/-- What comes out of a call. -/
theorem frz_R {G1 : Gh} {lo1 n : Nat} {h1 : Heap} {w1 : World} (hi : HInv T G1 lo1 h1 w1) (hlo : lo1 ≤ n) (hp : ∀ b off v, G1.Gp b off = some v → G.Gp b off = some v)
    (hs : ∀ B ep g, B < n → G1.sg B ep = some g → G.sg B ep = some g) (hn : n ≤ G.n)
    (hlate : ∀ B es g off v, n ≤ B → h1[B]? = some (.arr es) → G1.sg B es.length = some g → w1.cell? ⟨g.b, off, none⟩ = some v → G.Gp g.b off = some v) :
    ∀ (d : Nat) (v v' : V) (rv : Value), frz n h1 d v = some v' → R T G1 v rv → R T G v' rv := by
  intro d
  induction d using Nat.strongRecOn with
  | _ d ih =>
    intro v v' rv hf hR
    by_cases hc : closedB v = true
    · rw [frz_closed hc] at hf
      simp only [Option.some.injEq] at hf; subst hf
      exact hR.closed hp hc
    · cases d with
      | zero => simp [frz, hc] at hf
      | succ d =>
        -- an element of a block from n on: its cells, frozen
        have elem : ∀ {B : Nat} {es : List V} {g : Img} {i : Nat} {e e' : V}, n ≤ B → h1[B]? = some (.arr es) → G1.sg B es.length = some g → es[i]? = some e → frz n h1 d e = some e' →
            e'.cells.length = g.z ∧ ∀ (j : Nat) (c : V), e'.cells[j]? = some c → ∃ x, G.Gp g.b (g.o + i * g.z + j) = some x ∧ R T G c x ∧ oc x = true := by
          intro B es g i e e' hB he hg hi' hfe
          obtain ⟨c, t, fz, l1, l2, l3, l4, l5⟩ := hi.live B es g he hg
          obtain ⟨m1, m2⟩ := l5 i e hi'
          obtain ⟨f1, f2⟩ := frz_cells hfe
          refine ⟨by rw [f1, m1], fun j c' hj => ?_⟩
          obtain ⟨d', c0, hd', hc0, hfc⟩ := f2 j c' hj
          obtain ⟨rv, r1, r2, r3⟩ := m2 j c0 hc0
          refine ⟨rv, hlate B es g _ rv hB he hg ?_, ih d' (by omega) c0 c' rv hfc r2, r3⟩
          simp only [World.cell?, l1]; exact r1
        simp only [frz, hc, Bool.false_eq_true, if_false] at hf
        cases v <;> simp only at hf <;> try contradiction
        case gsl B ep z off len =>
          obtain ⟨a, cap, rfl, hB, hl, hg⟩ := hR.gsl_inv
          split at hf
          · rename_i hBn
            simp at hf; subst hf
            exact .gsl _ _ _ _ _ _ _ (by omega) hl (hg.imp id fun ⟨g, k1, k2⟩ => ⟨g, hs _ _ _ hBn k1, k2⟩)
          · rename_i hBn
            simp only [Option.bind_eq_some_iff, Option.map_eq_some_iff] at hf
            obtain ⟨es, h0, es', h2, rfl⟩ := hf
            obtain ⟨es0, e0, e1, e2, rfl⟩ := seen_some h0
            obtain ⟨o1, o2, o3⟩ := optL_get h2
            have hlen : es'.length = len := by rw [o1]; simp; omega
            have key : ∀ i e', es'[i]? = some e' → ∃ e, es0[off + i]? = some e ∧ frz n h1 d e = some e' := by
              intro i e' hi'
              obtain ⟨e, k1, k2⟩ := o3 i e' hi'
              rw [List.getElem?_take, List.getElem?_drop] at k1
              split at k1
              · exact ⟨e, k1, k2⟩
              · simp at k1
            rcases hg with rfl | ⟨g, k1, k2, rfl, k3⟩
            · have : es' = [] := List.eq_nil_of_length_eq_zero (by omega)
              subst this
              simp at hlen; subst hlen
              exact .sl z [] .perm a 0 0 0 (fun _ _ => undef) (by simp) (.plain rfl (by simp) rfl _ _ _) (by simp) (by simp) (by simp) (by simp) (by simp)
            · rw [← hlen]
              subst k2; subst e1
              refine .sl g.z es' .perm _ cap g.b (g.o + off * g.z) (fun i j => (G.Gp g.b (g.o + off * g.z + i * g.z + j)).getD undef) (by omega) (.plain rfl (by simp) rfl _ _ _) (fun _ => rfl) (fun i e hi' => ?_) (fun i e j c hi' hj => ?_) (fun i e j c hi' hj => ?_) (fun i e j c hi' hj => ?_)
              · obtain ⟨e0', q1, q2⟩ := key i e hi'
                exact (elem (by omega) e0 k1 q1 q2).1
              all_goals
                obtain ⟨e0', q1, q2⟩ := key i e hi'
                obtain ⟨x, x1, x2, x3⟩ := (elem (by omega) e0 k1 q1 q2).2 j c hj
                rw [show g.o + (off + i) * g.z + j = g.o + off * g.z + i * g.z + j by rw [Nat.add_mul]; omega] at x1
                first
                  | (simp only [gAt, x1, Option.getD_some]; done)
                  | (simp only [gAt, x1, Option.getD_some]; first | exact x2 | exact x3)
        case ptr B ep i o =>
          obtain ⟨g, hg, rfl⟩ := hR.ptr_inv
          split at hf
          · rename_i hBn
            simp at hf; subst hf
            exact .ptr _ _ _ _ g (hs _ _ _ hBn hg)
          · rename_i hBn
            split at hf
            · rename_i es he
              split at hf
              · rename_i hep
                subst hep
                simp only [Option.bind_eq_some_iff, Option.map_eq_some_iff] at hf
                obtain ⟨e, h0, e', h2, rfl⟩ := hf
                obtain ⟨q1, q2⟩ := elem (by omega) he hg h0 h2
                refine .eptr e' o .perm g.b (g.o + i * g.z) (fun j => (G.Gp g.b (g.o + i * g.z + j)).getD undef) (fun j c hj => ?_) (fun j c hj => ?_) (fun j c hj => ?_)
                all_goals
                  obtain ⟨x, x1, x2, x3⟩ := q2 j c hj
                  first
                    | (simp only [gAt, x1, Option.getD_some]; done)
                    | (simp only [gAt, x1, Option.getD_some]; first | exact x2 | exact x3)
              · simp at hf
            · simp at hf
        case tup vs =>
          simp only [Option.map_eq_some_iff] at hf
          obtain ⟨vs', h2, rfl⟩ := hf
          obtain ⟨c, rfl, t1, t2⟩ := hR.tup_inv
          obtain ⟨o1, o2, o3⟩ := optL_get h2
          refine .tup vs' c (by omega) fun i v rv e1 e2 => ?_
          obtain ⟨v0, k1, k2⟩ := o3 i v e1
          exact ih d (by omega) v0 v rv k2 (t2 i v0 rv k1 e2)
        case agg vs =>
          simp only [Option.map_eq_some_iff] at hf
          obtain ⟨vs', h2, rfl⟩ := hf
          obtain ⟨c, rfl, t1, t2, t3⟩ := hR.agg_inv
          obtain ⟨o1, o2, o3⟩ := optL_get h2
          refine .agg vs' c (by omega) (fun i v rv e1 e2 => ?_) t3
          obtain ⟨v0, k1, k2⟩ := o3 i v e1
          exact ih d (by omega) v0 v rv k2 (t2 i v0 rv k1 e2)
        case iface t v =>
          simp only [Option.map_eq_some_iff] at hf
          obtain ⟨x', h2, rfl⟩ := hf
          obtain ⟨tid, x, rfl, t1, t2⟩ := hR.iface_inv
          exact .iface t tid x' x t1 (ih d (by omega) _ _ _ h2 t2)

/-- As a call sees memory that writes nothing of what was there: all that is there stays while it runs. -/
def Gh.inner (G : Gh) (w : World) : Gh := { G with Gb := fun b off => w.cell? ⟨b, off, none⟩ }

theorem ro_begin (hi : HInv T G lo h w) : HInv T (G.inner w) h.length h w ∧ G.le (G.inner w) := by
  have hle : G.le (G.inner w) := ⟨fun _ _ _ e => e, fun b off v e => hi.gb _ _ _ e, fun _ _ _ e => e, fun _ _ e => e, Nat.le_refl _⟩
  refine ⟨⟨hi.gp, fun _ _ _ e => e, Nat.le_refl _, hi.nle, hi.sdom, hi.idom, hi.eple, fun B es g e hs => ?_, hi.iter, fun B es g hl e => ?_, fun B s pos r hl e => ?_⟩, hle⟩
  · obtain ⟨c', t', fz', h1, h2, h3, h4, h6⟩ := hi.live _ _ _ e hs
    exact ⟨c', t', fz', h1, h2, h3, h4, h6.mono hle⟩
  · have := (List.getElem?_eq_some_iff.1 e).1; omega
  · have := (List.getElem?_eq_some_iff.1 e).1; omega

/-- What is known behind such a call. -/
noncomputable def Gh.outer (G G1 : Gh) (h h1 : Heap) (w1 : World) : Gh where
  Gp b off := if Late G1 h.length h.length h1 b then w1.cell? ⟨b, off, none⟩ else G1.Gp b off
  Gb := G.Gb
  sg := G.sg
  io := G.io
  n := h.length

theorem ro_end {G1 : Gh} {h1 : Heap} {w1 : World} (hi : HInv T G lo h w) (hi1 : HInv T G1 h.length h1 w1) (st : Stp h.length (G.inner w) h w G1 h1 w1) :
    HInv T (G.outer G1 h h1 w1) lo h w1 ∧ Stp lo G h w (G.outer G1 h h1 w1) h w1 ∧
    ∀ (d : Nat) (v v' : V) (rv : Value), frz h.length h1 d v = some v' → R T G1 v rv → R T (G.outer G1 h h1 w1) v' rv := by
  have noown : ∀ b, ¬ Own (G.inner w) h.length h b := by
    rintro b ⟨B, hl, ⟨es, g, e, _⟩ | ⟨s, pos, e, _⟩⟩
    · have := (List.getElem?_eq_some_iff.1 e).1; omega
    · have := (List.getElem?_eq_some_iff.1 e).1; omega
  have old : ∀ b, b < w.heap.size → w1.heap[b]? = w.heap[b]? ∧ (∀ off, G1.Gp b off = G.Gp b off) ∧ ¬ Late G1 h.length h.length h1 b := fun b hb => by
    obtain ⟨k1, k2, k3⟩ := st.keep b hb (noown b)
    exact ⟨k1, k2, fun hl => k3 hl.own⟩
  have gpo : ∀ b off, b < w.heap.size → (G.outer G1 h h1 w1).Gp b off = G.Gp b off := by
    intro b off hb
    show (if Late G1 h.length h.length h1 b then w1.cell? ⟨b, off, none⟩ else G1.Gp b off) = _
    rw [if_neg (old b hb).2.2]; exact (old b hb).2.1 off
  have hle : G.le (G.outer G1 h h1 w1) := ⟨fun b off v e => by rw [gpo b off (hi.gp_lt e)]; exact e, fun _ _ _ e => e, fun _ _ _ e => e, fun _ _ e => e, hi.nle⟩
  have hp1 : ∀ b off v, G1.Gp b off = some v → (G.outer G1 h h1 w1).Gp b off = some v := by
    intro b off v e
    show (if Late G1 h.length h.length h1 b then w1.cell? ⟨b, off, none⟩ else G1.Gp b off) = some v
    split
    · exact hi1.gp _ _ _ e
    · exact e
  refine ⟨⟨fun b off v e => ?_, fun b off v e => ?_, hi.llo, Nat.le_refl _, fun B ep g e => Nat.lt_of_lt_of_le (hi.sdom _ _ _ e) hi.nle, fun B r e => Nat.lt_of_lt_of_le (hi.idom _ _ e) hi.nle, hi.eple, fun B es g e hs => ?_, fun B s pos r e hr => ?_,
    fun B es g hl e hs => ?_, hi.iown⟩, ⟨hle, st.os, st.tape, st.output, st.size, fun b hb hno => ⟨(old b hb).1, fun off => gpo b off hb, hno⟩, rfl, fun _ _ => ⟨fun _ => rfl, rfl⟩, .same fun _ _ => rfl⟩, fun d v v' rv hf hR => ?_⟩
  · have e' : (if Late G1 h.length h.length h1 b then w1.cell? ⟨b, off, none⟩ else G1.Gp b off) = some v := e
    split at e'
    · exact e'
    · exact hi1.gp _ _ _ e'
  · have e' : G.Gb b off = some v := e
    rw [cell_block (old b (hi.gb_lt e')).1]; exact hi.gb _ _ _ e'
  · obtain ⟨c', t', fz', k1, k2, k3, k4, k6⟩ := hi.live _ _ _ e hs
    exact ⟨c', t', fz', by rw [(old _ (heap_lt k1)).1]; exact k1, k2, k3, k4, k6.mono hle⟩
  · obtain ⟨s', k1, k2⟩ := hi.iter _ _ _ _ e hr
    exact ⟨s', k1, by rw [(old _ (heap_lt k2)).1]; exact k2⟩
  · obtain ⟨k1, k2⟩ := hi.own _ _ _ hl e hs
    exact ⟨fun off => ⟨by rw [gpo _ _ (hi.live_lt e hs)]; exact (k1 off).1, (k1 off).2⟩, k2⟩
  · refine frz_R hi1 (Nat.le_refl _) hp1 (fun B ep g hB e => ?_) (Nat.le_refl _) (fun B es g off x hB e hs hx => ?_) d v v' rv hf hR
    · have := (st.slo B hB).1 ep
      rw [e] at this; exact this.symm
    · show (if Late G1 h.length h.length h1 g.b then w1.cell? ⟨g.b, off, none⟩ else G1.Gp g.b off) = some x
      rw [if_pos ⟨B, es, g, hB, hB, e, hs, rfl⟩]; exact hx

theorem viewD_cells {d : Nat} {e e' : V} (h' : viewD h d e = some e') : e'.cells.length = e.cells.length ∧
    ∀ (j : Nat) (c' : V), e'.cells[j]? = some c' → ∃ c, e.cells[j]? = some c ∧ ∃ d', d' ≤ d ∧ viewD h d' c = some c' := by
  cases d with
  | zero => simp only [viewD, Option.some.injEq] at h'; subst h'; exact ⟨rfl, fun j c' hj => ⟨c', hj, 0, Nat.le_refl _, rfl⟩⟩
  | succ d =>
    have other : e.cells = [e] → e'.cells = [e'] → e'.cells.length = e.cells.length ∧ ∀ (j : Nat) (c' : V), e'.cells[j]? = some c' → ∃ c, e.cells[j]? = some c ∧ ∃ d', d' ≤ d + 1 ∧ viewD h d' c = some c' := by
      intro h1 h2
      refine ⟨by rw [h1, h2]; rfl, fun j c' hj => ?_⟩
      rw [h2] at hj
      cases j with
      | zero => simp at hj; subst hj; exact ⟨e, by rw [h1]; rfl, d + 1, Nat.le_refl _, h'⟩
      | succ j => simp at hj
    have h0 := h'
    simp only [viewD] at h'
    split at h'
    · simp only [Option.some.injEq] at h'; subst h'
      refine ⟨rfl, fun j c' hj => ⟨c', hj, 0, Nat.zero_le _, rfl⟩⟩
    · split at h'
      · simp only [Option.bind_eq_some_iff, Option.map_eq_some_iff] at h'
        obtain ⟨_, _, _, _, rfl⟩ := h'
        exact other rfl rfl
      · split at h'
        · split at h'
          · simp only [Option.bind_eq_some_iff, Option.map_eq_some_iff] at h'
            obtain ⟨_, _, _, _, rfl⟩ := h'
            exact other rfl rfl
          · simp at h'
        · simp at h'
      · simp only [Option.map_eq_some_iff] at h'
        obtain ⟨cs', h1, rfl⟩ := h'
        obtain ⟨o1, o2, o3⟩ := optL_get h1
        refine ⟨by simpa [V.cells] using o1, fun j c' hj => ?_⟩
        obtain ⟨v, k1, k2⟩ := o3 j c' (by simpa [V.cells] using hj)
        exact ⟨v, by simpa [V.cells] using k1, d, Nat.le_succ _, k2⟩
      · simp only [Option.bind_eq_some_iff, Option.map_eq_some_iff] at h'
        obtain ⟨_, _, _, _, rfl⟩ := h'
        exact other rfl rfl
      · simp only [Option.map_eq_some_iff] at h'
        obtain ⟨_, _, rfl⟩ := h'
        exact other rfl rfl
      · simp only [Option.some.injEq] at h'; subst h'
        refine ⟨rfl, fun j c' hj => ⟨c', hj, 0, Nat.zero_le _, rfl⟩⟩

/-- What goes into such a call. -/
theorem viewD_R (hi : HInv T G lo h w) : ∀ (d : Nat) {v v' : V} {rv : Value}, viewD h d v = some v' → R T G v rv → R T (G.inner w) v' rv := by
  intro d
  induction d using Nat.strongRecOn with
  | _ d ih =>
  intro v v' rv e hR
  have hle := (ro_begin hi).2
  cases d with
  | zero => simp only [viewD, Option.some.injEq] at e; subst e; exact hR.mono hle
  | succ d =>
  -- an element of a block
  have elem : ∀ {es0 : List V} {B : Nat} {g : Img} {i : Nat} {e e' : V}, h[B]? = some (.arr es0) → G.sg B es0.length = some g → es0[i]? = some e → viewD h d e = some e' →
      e'.cells.length = g.z ∧ ∀ j c, e'.cells[j]? = some c → ∃ rv, w.cell? ⟨g.b, g.o + i * g.z + j, none⟩ = some rv ∧ R T (G.inner w) c rv ∧ oc rv = true := by
    intro es0 B g i e e' e0 k1 hi' hv
    obtain ⟨c, t, fz, l1, l2, l3, l4, l5⟩ := hi.live B es0 g e0 k1
    obtain ⟨q1, q2⟩ := viewD_cells hv
    refine ⟨by rw [q1]; exact (l5 _ e hi').1, fun j x hj => ?_⟩
    obtain ⟨y, y1, d', hd', y2⟩ := q2 j x hj
    obtain ⟨rv, r1, r2, r3⟩ := (l5 _ e hi').2 j y y1
    exact ⟨rv, by simp only [World.cell?, l1]; exact r1, ih d' (by omega) y2 r2, r3⟩
  simp only [viewD] at e
  split at e
  · simp only [Option.some.injEq] at e; subst e; exact hR.mono hle
  · split at e
    · rename_i B ep z off len _
      simp only [Option.bind_eq_some_iff, Option.map_eq_some_iff] at e
      obtain ⟨es, hs, es', hv, rfl⟩ := e
      obtain ⟨a, cap, rfl, hB, hl, hg⟩ := hR.gsl_inv
      obtain ⟨es0, e0, e1, e2, rfl⟩ := seen_some hs
      obtain ⟨o1, o2, o3⟩ := optL_get hv
      have hlen : es'.length = len := by rw [o1]; simp; omega
      rcases hg with rfl | ⟨g, k1, k2, rfl, k3⟩
      · have hl0 : len = 0 := by omega
        have hnil : es' = [] := by apply List.eq_nil_of_length_eq_zero; omega
        subst hl0; subst hnil
        exact .sl z [] .brw a 0 0 0 (fun _ _ => undef) (by simp) (.plain rfl (by simp) rfl _ _ _) (by simp) (by simp) (by simp) (by simp) (by simp)
      · subst k2; subst e1
        have key : ∀ i e, ((es0.drop off).take len)[i]? = some e → es0[off + i]? = some e := by
          intro i e hi'
          rw [List.getElem?_take, List.getElem?_drop] at hi'
          split at hi'
          · exact hi'
          · simp at hi'
        have cellv : ∀ i e', es'[i]? = some e' → e'.cells.length = g.z ∧ ∀ j x, e'.cells[j]? = some x → ∃ rv, w.cell? ⟨g.b, g.o + off * g.z + i * g.z + j, none⟩ = some rv ∧ R T (G.inner w) x rv ∧ oc rv = true := by
          intro i e' hi'
          obtain ⟨e, p1, p2⟩ := o3 i e' hi'
          obtain ⟨p3, p4⟩ := elem e0 k1 (key i e p1) p2
          refine ⟨p3, fun j x hj => ?_⟩
          rw [show g.o + off * g.z + i * g.z + j = g.o + (off + i) * g.z + j by rw [Nat.add_mul]; omega]
          exact p4 j x hj
        have := R.sl (T := T) (G := G.inner w) g.z es' .brw (some ⟨g.b, g.o + off * g.z, none⟩) cap g.b (g.o + off * g.z) (fun i j => (w.cell? ⟨g.b, g.o + off * g.z + i * g.z + j, none⟩).getD undef) (by omega) (.plain rfl (by simp) rfl _ _ _) (fun _ => rfl)
          (fun i e hi' => (cellv i e hi').1) (fun i e j x hi' hj => by obtain ⟨rv, r1, r2, r3⟩ := (cellv i e hi').2 j x hj; show w.cell? _ = some _; rw [r1]; rfl)
          (fun i e j x hi' hj => by obtain ⟨rv, r1, r2, r3⟩ := (cellv i e hi').2 j x hj; rw [r1]; exact r2)
          (fun i e j x hi' hj => by obtain ⟨rv, r1, r2, r3⟩ := (cellv i e hi').2 j x hj; rw [r1]; exact r3)
        rw [hlen] at this
        exact this
    · rename_i B ep i o _
      obtain ⟨g, hg, rfl⟩ := hR.ptr_inv
      split at e
      · rename_i es he
        split at e
        · rename_i hep
          subst hep
          simp only [Option.bind_eq_some_iff, Option.map_eq_some_iff] at e
          obtain ⟨e0, h0, e', h2, rfl⟩ := e
          obtain ⟨q1, q2⟩ := elem he hg h0 h2
          refine .eptr e' o .brw g.b (g.o + i * g.z) (fun j => (w.cell? ⟨g.b, g.o + i * g.z + j, none⟩).getD undef) (fun j c hj => ?_) (fun j c hj => ?_) (fun j c hj => ?_)
          · obtain ⟨x, x1, x2, x3⟩ := q2 j c hj
            show w.cell? _ = some _
            rw [x1]; rfl
          · obtain ⟨x, x1, x2, x3⟩ := q2 j c hj
            rw [x1]; exact x2
          · obtain ⟨x, x1, x2, x3⟩ := q2 j c hj
            rw [x1]; exact x3
        · simp at e
      · simp at e
    · rename_i cs _
      simp only [Option.map_eq_some_iff] at e
      obtain ⟨cs', h1, rfl⟩ := e
      obtain ⟨c, rfl, t1, t2, t3⟩ := hR.agg_inv
      obtain ⟨o1, o2, o3⟩ := optL_get h1
      refine .agg cs' c (by omega) (fun i v rv e1 e2 => ?_) t3
      obtain ⟨v0, k1, k2⟩ := o3 i v e1
      exact ih d (by omega) k2 (t2 i v0 rv k1 e2)
    · rename_i f as bs _
      simp only [Option.bind_eq_some_iff, Option.map_eq_some_iff] at e
      obtain ⟨as', h1, bs', h2, rfl⟩ := e
      obtain ⟨fid, ra, rb, rfl, ht, t1, t3, t2, t4⟩ := hR.func_inv
      obtain ⟨o1, o2, o3⟩ := optL_get h1
      obtain ⟨p1, p2, p3⟩ := optL_get h2
      refine .func f fid as' bs' ra rb ht (by omega) (by omega) (fun i v rv e1 e2 => ?_) (fun i v rv e1 e2 => ?_)
      · obtain ⟨v0, k1, k2⟩ := o3 i v e1
        exact ih d (by omega) k2 (t2 i v0 rv k1 e2)
      · obtain ⟨v0, k1, k2⟩ := p3 i v e1
        exact ih d (by omega) k2 (t4 i v0 rv k1 e2)
    · rename_i t v0 _
      simp only [Option.map_eq_some_iff] at e
      obtain ⟨x', h2, rfl⟩ := e
      obtain ⟨tid, x, rfl, t1, t2⟩ := hR.iface_inv
      exact .iface t tid x' x t1 (ih d (by omega) h2 t2)
    · simp only [Option.some.injEq] at e; subst e; exact hR.mono hle

theorem view_R (hi : HInv T G lo h w) {v v' : V} {rv : Value} (e : viewV h v = some v') (hR : R T G v rv) : R T (G.inner w) v' rv := viewD_R hi 4 e hR

end
end Go.VE
