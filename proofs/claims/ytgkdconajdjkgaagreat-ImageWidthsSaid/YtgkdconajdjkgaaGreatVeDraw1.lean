/- Regions that draw their order: what the test and the evaluator's own run say. -/
import Derived.Test.YtgkdconajdjkgaaGreatVeRegion
import Derived.Orders
namespace Go.VE
set_option linter.unusedVariables false
set_option linter.unnecessarySimpa false
set_option linter.unusedSimpArgs false
open Classical

section
variable {P : Program} {T : Tbl} {vp : VP}

/-- Place q of a tested region. -/
structure PosOK (P : Program) (T : Tbl) (vp : VP) (ops : Array Oper) (nt : Nat) (ds : List VDt) (q : Nat) (d : VDt) : Prop where
  other : ∀ p d', p < q → ds[p]? = some d' → d'.ix ≠ d.ix
  lt : d.ix < ops.size
  chk : chkIt P T ops nt (ops.getD d.ix default) d.it = true
  edge : ∀ e ∈ (ops.getD d.ix default).after.toList, Region.binds .any e = true → ∃ p d', p < q ∧ ds[p]? = some d' ∧ d'.ix = e.on
  bits : ∀ i, d.bm.testBit i = true → ∃ e ∈ (ops.getD d.ix default).after.toList, Region.binds .any e = true ∧ (e.on = i ∨ ∃ p d', p < q ∧ ds[p]? = some d' ∧ d'.ix = e.on ∧ d'.bm.testBit i = true)
  pair : ∀ p d', p < q → ds[p]? = some d' → d.bm.testBit d'.ix = true ∨ pairOK vp p d' d = true

theorem dEdges_spec {done : List (Nat × VDt)} : ∀ {es : List Edge} {m : Nat}, dEdges done es = some m →
    (∀ e ∈ es, Region.binds .any e = true → ∃ x ∈ done, x.2.ix = e.on) ∧
    (∀ i, m.testBit i = true → ∃ e ∈ es, Region.binds .any e = true ∧ (e.on = i ∨ ∃ x ∈ done, x.2.ix = e.on ∧ x.2.bm.testBit i = true))
  | [], m, h => by
    simp [dEdges] at h
    subst h
    simp
  | e :: es, m, h => by
    unfold dEdges at h
    split at h
    · rename_i hb
      split at h
      · rename_i x hx
        simp only [Option.map_eq_some_iff] at h
        obtain ⟨m', hm, rfl⟩ := h
        obtain ⟨k1, k2⟩ := dEdges_spec hm
        have hxm := List.mem_of_find?_eq_some hx
        have hxi : x.2.ix = e.on := by simpa using List.find?_some hx
        refine ⟨fun e' he' hb' => ?_, fun i hi => ?_⟩
        · rcases List.mem_cons.1 he' with rfl | he'
          · exact ⟨x, hxm, hxi⟩
          · exact k1 e' he' hb'
        · simp only [Nat.testBit_or, Bool.or_eq_true, Nat.testBit_two_pow, decide_eq_true_eq] at hi
          rcases hi with (hi | hi) | hi
          · obtain ⟨e', he', hr⟩ := k2 i hi
            exact ⟨e', List.mem_cons_of_mem _ he', hr⟩
          · exact ⟨e, List.mem_cons_self, hb, .inl hi⟩
          · exact ⟨e, List.mem_cons_self, hb, .inr ⟨x, hxm, hxi, hi⟩⟩
      · exact absurd h (by simp)
    · rename_i hb
      obtain ⟨k1, k2⟩ := dEdges_spec h
      refine ⟨fun e' he' hb' => ?_, fun i hi => ?_⟩
      · rcases List.mem_cons.1 he' with rfl | he'
        · exact absurd hb' hb
        · exact k1 e' he' hb'
      · obtain ⟨e', he', hr⟩ := k2 i hi
        exact ⟨e', List.mem_cons_of_mem _ he', hr⟩

theorem chkD_spec {ops : Array Oper} {nt : Nat} {ds : List VDt} : ∀ (r : List VDt) (p : Nat) (done : List (Nat × VDt)), ds.drop p = r → (∀ x, x ∈ done ↔ x.1 < p ∧ ds[x.1]? = some x.2) →
    chkD P T vp ops nt p done r = true → ∀ q d, p ≤ q → ds[q]? = some d → PosOK P T vp ops nt ds q d
  | [], p, done, hr, hd, hc, q, d, hq, he => by
    have : ds.length ≤ p := List.drop_eq_nil_iff.1 hr
    rw [List.getElem?_eq_none (by omega)] at he
    simp at he
  | d0 :: r, p, done, hr, hd, hc, q, d, hq, he => by
    have hp : ds[p]? = some d0 := by
      have := congrArg (·[0]?) hr
      simpa using this
    have hr' : ds.drop (p + 1) = r := by
      have := congrArg List.tail hr
      simpa using this
    simp only [chkD, Bool.and_eq_true, List.all_eq_true, decide_eq_true_eq, bne_iff_ne, ne_eq, beq_iff_eq, Bool.or_eq_true] at hc
    obtain ⟨⟨⟨⟨⟨c1, c2⟩, c3⟩, c4⟩, c5⟩, c6⟩ := hc
    rcases Nat.eq_or_lt_of_le hq with rfl | hlt
    · rw [hp] at he; simp only [Option.some.injEq] at he; subst he
      obtain ⟨k1, k2⟩ := dEdges_spec c4
      refine ⟨fun p' d' hlt he => c1 (p', d') ((hd _).2 ⟨hlt, he⟩), c2, c3, fun e he hb => ?_, fun i hi => ?_, fun p' d' hlt he => c5 (p', d') ((hd _).2 ⟨hlt, he⟩)⟩
      · obtain ⟨x, hx, hxi⟩ := k1 e he hb
        obtain ⟨h1, h2⟩ := (hd x).1 hx
        exact ⟨x.1, x.2, h1, h2, hxi⟩
      · obtain ⟨e, he, hb, hh⟩ := k2 i hi
        refine ⟨e, he, hb, ?_⟩
        rcases hh with hh | ⟨x, hx, hxi, ht⟩
        · exact .inl hh
        · obtain ⟨h1, h2⟩ := (hd x).1 hx
          exact .inr ⟨x.1, x.2, h1, h2, hxi, ht⟩
    · refine chkD_spec r (p + 1) ((p, d0) :: done) hr' (fun x => ?_) c6 q d hlt he
      constructor
      · intro hx
        rcases List.mem_cons.1 hx with rfl | hx
        · exact ⟨Nat.lt_succ_self _, hp⟩
        · obtain ⟨h1, h2⟩ := (hd x).1 hx
          exact ⟨by omega, h2⟩
      · rintro ⟨h1, h2⟩
        by_cases hx : x.1 = p
        · obtain ⟨x1, x2⟩ := x
          simp only at hx h2
          subst hx
          rw [hp] at h2; simp only [Option.some.injEq] at h2; subst h2
          exact List.mem_cons_self
        · exact List.mem_cons_of_mem _ ((hd x).2 ⟨by omega, h2⟩)

theorem drawOK_spec {ops : Array Oper} {nt : Nat} {ds : List VDt} (h : drawOK P T vp ops nt ds = true) : (∀ q d, ds[q]? = some d → PosOK P T vp ops nt ds q d) ∧ ∀ i, i < ops.size → ∃ (q : Nat) (d : VDt), ds[q]? = some d ∧ d.ix = i := by
  simp only [drawOK, Bool.and_eq_true, List.all_eq_true, List.any_eq_true, beq_iff_eq] at h
  refine ⟨fun q d he => chkD_spec ds 0 [] rfl (fun x => by simp) h.1 q d (Nat.zero_le _) he, fun i hi => ?_⟩
  obtain ⟨d, hd, rfl⟩ := h.2 i (List.mem_range.2 hi)
  obtain ⟨q, hq⟩ := List.mem_iff_getElem?.1 hd
  exact ⟨q, d, hq, rfl⟩

/-- The evaluator's own run, state by state. -/
structure Trc (O : Orc) (vp : VP) (lo : Nat) (ds : List VDt) (p0 : Nat) (F : Nat → Fr) (H : Nat → Heap) (X : Nat → V) : Prop where
  step : ∀ p d, ds[p]? = some d → stepIt O vp lo d.it (F p) (H p) = some (X p, H (p + 1)) ∧ F (p + 1) = put (F p) d.it.dst (X p)
  chk : ∀ l q dl dq agg n a, l < q → ds[l]? = some dl → ds[q]? = some dq → p0 + l ∈ dq.xl → dl.it.op = .load agg n a → loadV (H l) agg n (opd (F l) a) = some (X l) →
    loadV (H (q + 1)) agg n (opd (F l) a) = some (X l)

def cns {α : Type} (a : α) (f : Nat → α) : Nat → α
  | 0 => a
  | n + 1 => f n

theorem trc_of {O : Orc} {lo : Nat} : ∀ (ds : List VDt) (p0 : Nat) (rs : List LRec) (fr : Fr) (h : Heap) (r : Fr × Heap), runD O vp lo ds p0 rs fr h = some r →
    ∃ F H X, F 0 = fr ∧ H 0 = h ∧ F ds.length = r.1 ∧ H ds.length = r.2 ∧ Trc O vp lo ds p0 F H X ∧ ∀ e ∈ rs, ∀ q dq, ds[q]? = some dq → e.p ∈ dq.xl → loadV (H (q + 1)) e.agg e.n e.a = some e.v
  | [], p0, rs, fr, h, r, e => by
    simp only [runD, Option.some.injEq] at e
    subst e
    exact ⟨fun _ => fr, fun _ => h, fun _ => .undef, rfl, rfl, rfl, rfl, ⟨fun p d hd => by simp at hd, fun l q dl dq agg n a _ hd => by simp at hd⟩, fun e _ q dq hd => by simp at hd⟩
  | d :: ds, p0, rs, fr, h, r, e => by
    simp only [runD, Option.bind_eq_some_iff] at e
    obtain ⟨x, hx, e⟩ := e
    split at e
    · rename_i hck
      obtain ⟨F, H, X, k1, k2, k3, k4, k5, k6⟩ := trc_of ds (p0 + 1) _ _ _ _ e
      refine ⟨cns fr F, cns h H, cns x.1 X, rfl, rfl, k3, k4, ⟨fun p d' hd => ?_, fun l q dl dq agg n a hlt hl hq hm hop hld => ?_⟩, fun y hy q dq hq hm => ?_⟩
      · cases p with
        | zero =>
          simp at hd; subst hd
          refine ⟨?_, ?_⟩
          · show stepIt O vp lo d.it fr h = some (x.1, H 0)
            rw [hx, k2]
          · show F 0 = put fr d.it.dst x.1
            exact k1
        | succ p => exact k5.step p d' (by simpa using hd)
      · cases q with
        | zero => omega
        | succ q =>
          have hq' : ds[q]? = some dq := by simpa using hq
          cases l with
          | zero =>
            simp at hl; subst hl
            have hld' : loadV h agg n (opd fr a) = some x.1 := hld
            have hmem : (⟨p0, agg, n, opd fr a, x.1⟩ : LRec) ∈ recOf p0 d.it fr h x.1 ++ rs := by
              refine List.mem_append_left _ ?_
              simp only [recOf, hop]
              rw [if_pos (isSomeV_iff.2 hld')]; exact List.mem_singleton.2 rfl
            exact k6 _ hmem q dq hq' (by simpa using hm)
          | succ l =>
            exact k5.chk l q dl dq agg n a (by omega) (by simpa using hl) hq' (by rw [show p0 + 1 + l = p0 + (l + 1) by omega]; exact hm) hop hld
      · cases q with
        | zero =>
          simp at hq; subst hq
          show loadV (H 0) y.agg y.n y.a = some y.v
          rw [k2]
          have := List.all_eq_true.1 hck y hy
          simp only [Bool.or_eq_true, Bool.not_eq_true', isSomeV_iff] at this
          rcases this with h0 | h0
          · rw [List.contains_iff_mem.2 hm] at h0; simp at h0
          · exact h0
        | succ q => exact k6 y (List.mem_append_right _ hy) q dq (by simpa using hq) hm
    · exact absurd e (by simp)

/-! ### What an item's answer hangs on -/

theorem opdReads_mem {l : List VOpd} {n : Nat} (h : VOpd.t n ∈ l) : n ∈ opdReads l := by
  induction l with
  | nil => simp at h
  | cons x l ih =>
    rcases List.mem_cons.1 h with rfl | h'
    · simp [opdReads]
    · cases x <;> simp [opdReads, ih h']

theorem opd_congr {fr fr' : Fr} {l : List VOpd} (h : ∀ t ∈ opdReads l, lk fr t = lk fr' t) {y : VOpd} (hy : y ∈ l) : opd fr y = opd fr' y := by
  cases y with
  | t n => exact h n (opdReads_mem hy)
  | c v => rfl

theorem map_opd_congr {fr fr' : Fr} {l : List VOpd} (h : ∀ y ∈ l, opd fr y = opd fr' y) : l.map (opd fr) = l.map (opd fr') := List.map_congr_left h

theorem optmap_congr {fr fr' : Fr} {x : Option VOpd} (h : ∀ y ∈ optOpds x, opd fr y = opd fr' y) : x.map (opd fr) = x.map (opd fr') := by
  cases x with
  | none => rfl
  | some y => simp [h y (by simp [optOpds])]

theorem pureOp_congr {fr fr' : Fr} {op : VOp} (h : ∀ y ∈ vopds op, opd fr y = opd fr' y) : pureOp fr op = pureOp fr' op := by
  cases op <;> simp only [vopds, List.mem_cons, List.mem_append, List.not_mem_nil, or_false, forall_eq_or_imp, forall_eq] at h <;> simp only [pureOp]
  case mv x => rw [h]
  case pick c a b => rw [h.1, h.2.1, h.2.2]
  case build z ps =>
    have h1 : ∀ p ∈ ps, opd fr p.2.2 = opd fr' p.2.2 := fun p hp => h _ (List.mem_map.2 ⟨p, hp, rfl⟩)
    have h2 : (ps.map fun p => (p.1, opd fr p.2.2)) = ps.map fun p => (p.1, opd fr' p.2.2) := List.map_congr_left fun p hp => by rw [h1 p hp]
    have h3 : (ps.all fun p => (opd fr p.2.2).cells.length == p.2.1) = ps.all fun p => (opd fr' p.2.2).cells.length == p.2.1 := by
      rw [Bool.eq_iff_iff]
      simp only [List.all_eq_true]
      exact ⟨fun k p hp => by rw [← h1 p hp]; exact k p hp, fun k p hp => by rw [h1 p hp]; exact k p hp⟩
    rw [h2, h3]
  case buildSl n ps => rw [map_opd_congr h]
  case nilchk x => rw [h]
  case bin op x y => rw [h.1, h.2]
  case isnil k neg x => rw [h]
  case eq neg ks x y => rw [h.1, h.2]
  case un op x => rw [h]
  case conv k x => rw [h]
  case mkif t x => rw [h]
  case mkfn f a b => rw [map_opd_congr fun y hy => h y (.inl hy), map_opd_congr fun y hy => h y (.inr hy)]
  case slice n x lo hi mx => rw [h.1, optmap_congr fun y hy => h.2 y (.inl (.inl hy)), optmap_congr fun y hy => h.2 y (.inl (.inr hy)), optmap_congr fun y hy => h.2 y (.inr hy)]
  case faddr off x => rw [h]
  case fld agg n off x => rw [h]
  case iaddr n x i => rw [h.1, h.2]
  case iaddrA len n x i => rw [h.1, h.2]
  case idxS x i => rw [h.1, h.2]
  case idxA len n agg x i => rw [h.1, h.2]
  case tassert ty z ok x => rw [h]
  case ext x i => rw [h]
  case len text x => rw [h]
  case mn xs => rw [map_opd_congr h]
  case mx xs => rw [map_opd_congr h]

theorem evalOp_congr {O : Orc} {lo : Nat} {fr fr' : Fr} {hp : Heap} {op : VOp} (h : ∀ y ∈ vopds op, opd fr y = opd fr' y) : evalOp O vp lo fr hp op = evalOp O vp lo fr' hp op := by
  have hpure := pureOp_congr h
  cases op <;> simp only [evalOp] <;> first
    | (rw [hpure]; done)
    | (simp only [vopds, List.mem_cons, List.mem_append, List.not_mem_nil, or_false, forall_eq_or_imp, forall_eq] at h)
  case box x => rw [h]
  case load agg n a => rw [h]
  case store n fz a x => rw [h.1, h.2]
  case mksl z bytes a b => rw [h.1, h.2]
  case app z bytes fz s x => rw [h.1, h.2]
  case rng x => rw [h]
  case nxt x => rw [h]
  case call f xs => rw [map_opd_congr h]
  case calld ro f xs => rw [h.1, map_opd_congr h.2]
  case inv m r xs => rw [h.1, map_opd_congr h.2]

theorem stepIt_congr {O : Orc} {lo : Nat} {fr fr' : Fr} {hp : Heap} {it : VIt} (h : ∀ t ∈ itReads it, lk fr t = lk fr' t) : stepIt O vp lo it fr hp = stepIt O vp lo it fr' hp := by
  have he : evalOp O vp lo fr hp it.op = evalOp O vp lo fr' hp it.op := evalOp_congr fun y hy => opd_congr (fun t ht => h t (List.mem_append_left _ ht)) hy
  unfold stepIt
  cases hg : it.g with
  | none => exact he
  | some g =>
    obtain ⟨t, want⟩ := g
    have ht := h t (by simp [itReads, hg])
    simp only [ht, he]

/-! ### What the classes do -/

theorem evalOp_reg {O : Orc} {lo : Nat} {fr : Fr} {hp : Heap} {op : VOp} (hc : clsOf vp op = .reg) : evalOp O vp lo fr hp op = (pureOp fr op).map fun v => (v, hp) := by
  cases op <;> first | rfl | (simp [clsOf] at hc; done) | (simp only [clsOf] at hc; split at hc <;> simp at hc)

theorem doCall_ro {O : Orc} {lo lo' : Nat} {hp h' : Heap} {f : Nat} {vs : List V} {x : V} (hr : isRO vp f = true) (e : doCall O vp lo hp f vs = some (x, h')) : h' = hp ∧ doCall O vp lo' hp f vs = some (x, h') := by
  unfold doCall at e ⊢
  unfold isRO at hr
  cases hv : vp.fn f with
  | none => simp [hv] at e
  | some vf =>
    simp only [hv] at e hr ⊢
    cases hx : vf.ext with
    | some p =>
      simp only [hx] at e ⊢
      refine ⟨?_, e⟩
      simp only [Option.map_eq_some_iff, Prod.mk.injEq] at e
      obtain ⟨_, _, _, rfl⟩ := e; rfl
    | none =>
      simp only [hx] at e ⊢
      have hrw : vf.rw = false := by simpa [hx] using hr
      simp only [hrw, Bool.false_eq_true, if_false] at e ⊢
      refine ⟨?_, e⟩
      simp only [Option.bind_eq_some_iff] at e
      obtain ⟨_, _, e⟩ := e
      split at e <;>
        (simp only [Option.bind_eq_some_iff, Option.map_eq_some_iff, Prod.mk.injEq] at e
         obtain ⟨_, _, _, _, _, rfl⟩ := e; rfl)

theorem evalOp_ro {O : Orc} {lo lo' : Nat} {fr : Fr} {hp h' : Heap} {op : VOp} {x : V} (hc : clsOf vp op = .ro) (e : evalOp O vp lo fr hp op = some (x, h')) : h' = hp ∧ evalOp O vp lo' fr hp op = some (x, h') := by
  cases op <;> try (simp [clsOf] at hc; done)
  case call f xs =>
    simp only [clsOf] at hc
    split at hc
    · exact doCall_ro ‹_› e
    · simp at hc
  case calld ro f xs =>
    simp only [clsOf] at hc
    split at hc
    · rename_i hro
      simp only [evalOp] at e ⊢
      split at e
      · split at e
        · simp at e
        · rename_i hn
          rw [if_neg hn]
          refine doCall_ro ?_ e
          cases hh : isRO vp _ with
          | true => rfl
          | false => exact absurd ⟨hro, hh⟩ hn
      · simp at e
    · simp at hc

/-- A step of an item, split: it ran, or it was passed over. -/
theorem stepIt_split {O : Orc} {lo : Nat} {it : VIt} {fr : Fr} {hp : Heap} {r : V × Heap} (e : stepIt O vp lo it fr hp = some r) :
    (evalOp O vp lo fr hp it.op = some r ∧ ∀ lo' hp' r', evalOp O vp lo' fr hp' it.op = some r' → stepIt O vp lo' it fr hp' = some r') ∨
    (r = (passed, hp) ∧ ∀ lo' hp', stepIt O vp lo' it fr hp' = some (passed, hp')) := by
  unfold stepIt at e ⊢
  cases hg : it.g with
  | none => simp only [hg] at e ⊢; exact .inl ⟨e, fun _ _ _ h => h⟩
  | some g =>
    obtain ⟨t, want⟩ := g
    simp only [hg] at e ⊢
    split at e
    · split at e
      · rename_i hb
        simp only [if_pos hb]
        exact .inl ⟨e, fun _ _ _ h => h⟩
      · rename_i hb
        simp only [if_neg hb]
        simp only [Option.some.injEq] at e
        exact .inr ⟨e.symm, fun _ _ => trivial⟩
    · simp only [Option.some.injEq] at e
      exact .inr ⟨e.symm, fun _ _ => rfl⟩
    · simp at e

theorem step_reg {O : Orc} {lo : Nat} {it : VIt} {fr : Fr} {hp h' : Heap} {x : V} (hc : clsOf vp it.op = .reg) (e : stepIt O vp lo it fr hp = some (x, h')) : h' = hp ∧ ∀ hp', stepIt O vp lo it fr hp' = some (x, hp') := by
  rcases stepIt_split e with ⟨h1, h2⟩ | ⟨h1, h2⟩
  · rw [evalOp_reg hc] at h1
    simp only [Option.map_eq_some_iff, Prod.mk.injEq] at h1
    obtain ⟨v, hv, rfl, rfl⟩ := h1
    exact ⟨rfl, fun hp' => h2 lo hp' _ (by rw [evalOp_reg hc, hv]; rfl)⟩
  · simp only [Prod.mk.injEq] at h1
    obtain ⟨rfl, rfl⟩ := h1
    exact ⟨rfl, fun hp' => h2 lo hp'⟩

theorem step_ro {O : Orc} {lo : Nat} {it : VIt} {fr : Fr} {hp h' : Heap} {x : V} (hc : clsOf vp it.op = .ro) (e : stepIt O vp lo it fr hp = some (x, h')) : h' = hp ∧ ∀ lo', stepIt O vp lo' it fr hp = some (x, h') := by
  rcases stepIt_split e with ⟨h1, h2⟩ | ⟨h1, h2⟩
  · exact ⟨(evalOp_ro (lo' := lo) hc h1).1, fun lo' => h2 lo' hp _ (evalOp_ro hc h1).2⟩
  · simp only [Prod.mk.injEq] at h1
    obtain ⟨rfl, rfl⟩ := h1
    exact ⟨rfl, fun lo' => h2 lo' _⟩

theorem step_ld {O : Orc} {lo : Nat} {it : VIt} {fr : Fr} {hp h' : Heap} {x : V} (hc : clsOf vp it.op = .ld) (e : stepIt O vp lo it fr hp = some (x, h')) : h' = hp ∧ ∃ agg n a, it.op = .load agg n a ∧
    ((loadV hp agg n (opd fr a) = some x ∧ ∀ hp', loadV hp' agg n (opd fr a) = some x → stepIt O vp lo it fr hp' = some (x, hp')) ∨ ∀ hp', stepIt O vp lo it fr hp' = some (x, hp')) := by
  obtain ⟨agg, n, a, ho⟩ : ∃ agg n a, it.op = .load agg n a := by
    cases ho : it.op <;> rw [ho] at hc <;> first | exact ⟨_, _, _, rfl⟩ | (simp [clsOf] at hc; done) | (simp only [clsOf] at hc; split at hc <;> simp at hc)
  rcases stepIt_split e with ⟨h1, h2⟩ | ⟨h1, h2⟩
  · rw [ho] at h1
    simp only [evalOp, Option.map_eq_some_iff, Prod.mk.injEq] at h1
    obtain ⟨v, hv, rfl, rfl⟩ := h1
    exact ⟨rfl, agg, n, a, ho, .inl ⟨hv, fun hp' hl => h2 lo hp' _ (by rw [ho]; simp only [evalOp, hl, Option.map_some])⟩⟩
  · simp only [Prod.mk.injEq] at h1
    obtain ⟨rfl, rfl⟩ := h1
    exact ⟨rfl, agg, n, a, ho, .inr fun hp' => h2 lo hp'⟩

/-- A new variable's item: the value that it starts with. -/
def freshV (fr : Fr) : VOp → Option V
  | .alloc z => some z
  | .box x => if okV (opd fr x) then some (opd fr x) else none
  | _ => none

theorem step_fresh {O : Orc} {lo : Nat} {it : VIt} {fr : Fr} {hp h' : Heap} {x : V} (hc : clsOf vp it.op = .fresh) (e : stepIt O vp lo it fr hp = some (x, h')) :
    (∃ v, freshV fr it.op = some v ∧ x = .ptr hp.length 1 0 0 ∧ h' = hp ++ [.arr [v]]) ∨ (x = passed ∧ h' = hp ∧ ∀ hp', stepIt O vp lo it fr hp' = some (passed, hp')) := by
  rcases stepIt_split e with ⟨h1, h2⟩ | ⟨h1, h2⟩
  · refine .inl ?_
    cases ho : it.op <;> rw [ho] at hc h1 <;> try (simp [clsOf] at hc; done)
    case call => simp only [clsOf] at hc; split at hc <;> simp at hc
    case calld => simp only [clsOf] at hc; split at hc <;> simp at hc
    case alloc z =>
      simp only [evalOp, Option.some.injEq, Prod.mk.injEq] at h1
      exact ⟨z, rfl, h1.1.symm, h1.2.symm⟩
    case box y =>
      simp only [evalOp] at h1
      split at h1
      · rename_i hok
        simp only [Option.some.injEq, Prod.mk.injEq] at h1
        exact ⟨opd fr y, by simp [freshV, hok], h1.1.symm, h1.2.symm⟩
      · simp at h1
  · simp only [Prod.mk.injEq] at h1
    obtain ⟨rfl, rfl⟩ := h1
    exact .inr ⟨rfl, rfl, fun hp' => h2 lo hp'⟩

end
end Go.VE
