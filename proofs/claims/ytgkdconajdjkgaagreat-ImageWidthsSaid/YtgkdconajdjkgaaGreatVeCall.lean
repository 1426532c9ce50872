/- Calls: what a callee answers, seen by its caller. -/
import Derived.Test.YtgkdconajdjkgaaGreatVeStep3
import Derived.Tactics
namespace Go.VE
set_option linter.unusedVariables false
set_option linter.unnecessarySimpa false
set_option linter.unusedSimpArgs false
open Classical

def RA (T : Tbl) (G : Gh) (vs : List V) (as : Array Value) : Prop :=
  vs.length = as.size ∧ ∀ (i : Nat) (v : V) (rv : Value), vs[i]? = some v → as[i]? = some rv → R T G v rv

theorem RA.mono {T : Tbl} {G G' : Gh} (hG : G.le G') {vs : List V} {as : Array Value} (h : RA T G vs as) : RA T G' vs as :=
  ⟨h.1, fun i v rv e1 e2 => (h.2 i v rv e1 e2).mono hG⟩

theorem RA.append {T : Tbl} {G : Gh} {vs vs' : List V} {as as' : Array Value} (h : RA T G vs as) (h' : RA T G vs' as') : RA T G (vs ++ vs') (as ++ as') := by
  refine ⟨by simp [h.1, h'.1], fun i v rv e1 e2 => ?_⟩
  rcases Nat.lt_or_ge i vs.length with hl | hl
  · rw [List.getElem?_append_left hl] at e1
    rw [Array.getElem?_append_left (by rw [← h.1]; exact hl)] at e2
    exact h.2 i v rv e1 e2
  · rw [List.getElem?_append_right hl] at e1
    rw [Array.getElem?_append_right (by rw [← h.1]; exact hl), ← h.1] at e2
    exact h'.2 _ v rv e1 e2

theorem RA.one {T : Tbl} {G : Gh} {v : V} {rv : Value} (h : R T G v rv) : RA T G [v] #[rv] := by
  refine ⟨rfl, fun i x y e1 e2 => ?_⟩
  cases i with
  | zero => simp at e1 e2; subst e1; subst e2; exact h
  | succ i => simp at e1

theorem RA.nil {T : Tbl} {G : Gh} : RA T G [] #[] := ⟨rfl, by simp⟩

/-- What is known when a call has come back. -/
def Back (T : Tbl) (lo : Nat) (G : Gh) (h : Heap) (w : World) (x : V) (h' : Heap) (e : Ending) (w' : World) : Prop :=
  ∃ rv G', e = .returned rv ∧ R T G' x rv ∧ HInv T G' lo h' w' ∧ Stp lo G h w G' h' w'

def OpGood (P : Program) (T : Tbl) (lo : Nat) (G : Gh) (h : Heap) (w : World) (s : Sem Next) (x : V) (h' : Heap) : Prop :=
  Good P T lo G h w s x h' ∨ ∃ fid as, s.run P w = .ok (.enter fid as) w ∧ Calls P fid as w (Back T lo G h w x h')

/-- A function that is taken by its contract. -/
def ExtOK (P : Program) (T : Tbl) (f : Nat) (p : List V → Option V) : Prop :=
  ∃ fid, T.fid f = some fid ∧ ∀ G lo h w vs (as : Array Value) r, HInv T G lo h w → RA T G vs as → p vs = some r → closedB r = true ∧ OpGood P T lo G h w (callFunc fid as) r h

/-- The evaluator's program is the model's. -/
structure Tied (P : Program) (T : Tbl) (vp : VP) : Prop where
  mix : P.follows .mixedOrders = true
  inj : ∀ i j t, T.tid i = some t → T.tid j = some t → i = j
  fn : ∀ f vf, vp.fn f = some vf → vf.ext = none → ∃ fid fn, T.fid f = some fid ∧ P.funcs[fid]? = some fn ∧ chkFunc P T vp fn vf = true
  ext : ∀ f vf p, vp.fn f = some vf → vf.ext = some p → ExtOK P T f p
  meth : ∀ t m f, vp.meth t m = some f → ∃ tid fid, T.tid t = some tid ∧ T.fid f = some fid ∧ methOK P tid (T.mname m) fid = true

section
variable {P : Program} {T : Tbl} {vp : VP} {G : Gh} {w : World} {lo : Nat} {h : Heap}

/-- The frames of calls: answered with fuel n. -/
def SoundCall (P : Program) (T : Tbl) (vp : VP) (n : Nat) : Prop :=
  ∀ f vf lo vs h r h', vp.fn f = some vf → vf.ext = none → (orcN vp n).call f lo vs h = some (r, h') → ∀ G w fid (as : Array Value), T.fid f = some fid → HInv T G lo h w → RA T G vs as →
    Calls P fid as w (Back T lo G h w r h')

theorem view_RA (hi : HInv T G lo h w) {vs vs' : List V} {as : Array Value} (e : optL (viewV h) vs = some vs') (hR : RA T G vs as) : RA T (G.inner w) vs' as := by
  obtain ⟨h1, h2, h3⟩ := optL_get e
  refine ⟨by rw [h1, hR.1], fun i v rv e1 e2 => ?_⟩
  obtain ⟨v0, k1, k2⟩ := h3 i v e1
  exact view_R hi k2 (hR.2 i v0 rv k1 e2)

/-- From the inside of a call that writes nothing of what was there to its outside. -/
theorem back_ro (hi : HInv T G lo h w) {x x' : V} {h1 : Heap} {d : Nat} (hf : frz h.length h1 d x = some x') {rv : Value} {G1 : Gh} {w1 : World} (hR : R T G1 x rv) (hi1 : HInv T G1 h.length h1 w1)
    (st : Stp h.length (G.inner w) h w G1 h1 w1) : ∃ G', R T G' x' rv ∧ HInv T G' lo h w1 ∧ Stp lo G h w G' h w1 := by
  obtain ⟨a, b, c⟩ := ro_end hi hi1 st
  exact ⟨_, c d x x' rv hf hR, a, b⟩

theorem OpGood.ro {s : Sem Next} {x x' : V} {h1 : Heap} {d : Nat} (hi : HInv T G lo h w) (hf : frz h.length h1 d x = some x') (hg : OpGood P T h.length (G.inner w) h w s x h1) : OpGood P T lo G h w s x' h := by
  rcases hg with ⟨nx, rv, w1, G1, k1, k2, k3, k4, k5⟩ | ⟨fid, as, k1, k2⟩
  · obtain ⟨G', r1, r2, r3⟩ := back_ro hi hf k3 k4 k5
    exact .inl ⟨nx, rv, w1, G', k1, k2, r1, r2, r3⟩
  · refine .inr ⟨fid, as, k1, k2.mono fun e w1 ⟨rv, G1, q1, q2, q3, q4⟩ => ?_⟩
    obtain ⟨G', r1, r2, r3⟩ := back_ro hi hf q2 q3 q4
    exact ⟨rv, G', q1, r1, r2, r3⟩

/-- What a call leaves that may write what was there. -/
theorem back_rw (hi : HInv T G lo h w) {x : V} {h1 : Heap} {rv : Value} {G1 : Gh} {w1 : World} (hR : R T G1 x rv) (hi1 : HInv T G1 lo h1 w1) (st : Stp lo G h w G1 h1 w1) :
    ∃ G', R T G' (gcRet vp h x h1).1 rv ∧ HInv T G' lo (gcRet vp h x h1).2 w1 ∧ Stp lo G h w G' (gcRet vp h x h1).2 w1 := by
  unfold gcRet
  split
  · rename_i hc
    simp only [Bool.and_eq_true] at hc
    have hold := okOldB_ok hc.2
    split
    · rename_i r' hr
      refine ⟨G1.drop lo h.length h1 w1 G1.Gb, ?_, drop_blocks hi1 st.mono.1 hi.llo (old_below hi st hold), drop_stp hi st hi1 st.mono.1⟩
      refine frz_R hi1 hi.llo (fun b off v e => drop_gp hi1 e) (fun B ep g hB e => ?_) (Nat.le_refl _) (fun B es g off v hB e hs hv => ?_) 4 x r' rv hr hR
      · show (if B < h.length then G1.sg B ep else none) = some g
        rw [if_pos hB]; exact e
      · show (if Late G1 lo h.length h1 g.b then w1.cell? ⟨g.b, off, none⟩ else G1.Gp g.b off) = some v
        rw [if_pos ⟨B, es, g, hB, Nat.le_trans hi.llo hB, e, hs, rfl⟩]; exact hv
    · exact ⟨G1, hR, hi1, st⟩
  · exact ⟨G1, hR, hi1, st⟩

/-! ### Calls whose arguments refer to no block: they run over no heap at all -/

def Gh.zero (G : Gh) (w : World) : Gh where
  Gp := G.Gp
  Gb b off := w.cell? ⟨b, off, none⟩
  sg _ _ := none
  io _ := none
  n := 0

theorem zero_begin (hi : HInv T G lo h w) : HInv T (G.zero w) 0 [] w :=
  ⟨hi.gp, fun _ _ _ e => e, Nat.le_refl _, Nat.le_refl _, fun _ _ _ e => by simp [Gh.zero] at e, fun _ _ e => by simp [Gh.zero] at e, fun _ _ _ _ e => by simp at e, fun _ _ _ e => by simp at e, fun _ _ _ _ e => by simp at e,
    fun _ _ _ _ e => by simp at e, fun _ _ _ _ _ e => by simp at e⟩

theorem zero_R {v : V} {rv : Value} (h : R T (G.inner w) v rv) (hb : belowB 0 v = true) : R T (G.zero w) v rv :=
  R.under (G := G.inner w) (G' := G.zero w) (n := 0) (fun _ _ _ e => e) (fun _ _ _ e => e) (fun _ _ _ hB => absurd hB (Nat.not_lt_zero _)) (fun _ _ hB => absurd hB (Nat.not_lt_zero _)) (Nat.le_refl _) h hb

noncomputable def Gh.outer0 (G G1 : Gh) (h1 : Heap) (w1 : World) : Gh where
  Gp b off := if Late G1 0 0 h1 b then w1.cell? ⟨b, off, none⟩ else G1.Gp b off
  Gb := G.Gb
  sg := G.sg
  io := G.io
  n := G.n

theorem zero_end {G1 : Gh} {h1 : Heap} {w1 : World} (hi : HInv T G lo h w) (hi1 : HInv T G1 0 h1 w1) (st : Stp 0 (G.zero w) [] w G1 h1 w1) :
    HInv T (G.outer0 G1 h1 w1) lo h w1 ∧ Stp lo G h w (G.outer0 G1 h1 w1) h w1 ∧
    ∀ (d : Nat) (v v' : V) (rv : Value), frz 0 h1 d v = some v' → R T G1 v rv → R T (G.outer0 G1 h1 w1) v' rv := by
  have noown : ∀ b, ¬ Own (G.zero w) 0 [] b := by
    rintro b ⟨B, hl, ⟨es, g, e, _⟩ | ⟨s, pos, e, _⟩⟩ <;> simp at e
  have old : ∀ b, b < w.heap.size → w1.heap[b]? = w.heap[b]? ∧ (∀ off, G1.Gp b off = G.Gp b off) ∧ ¬ Late G1 0 0 h1 b := fun b hb => by
    obtain ⟨k1, k2, k3⟩ := st.keep b hb (noown b)
    exact ⟨k1, k2, fun hl => k3 hl.own⟩
  have gpo : ∀ b off, b < w.heap.size → (G.outer0 G1 h1 w1).Gp b off = G.Gp b off := by
    intro b off hb
    show (if Late G1 0 0 h1 b then w1.cell? ⟨b, off, none⟩ else G1.Gp b off) = _
    rw [if_neg (old b hb).2.2]; exact (old b hb).2.1 off
  have hle : G.le (G.outer0 G1 h1 w1) := ⟨fun b off v e => by rw [gpo b off (hi.gp_lt e)]; exact e, fun _ _ _ e => e, fun _ _ _ e => e, fun _ _ e => e, Nat.le_refl _⟩
  have hp1 : ∀ b off v, G1.Gp b off = some v → (G.outer0 G1 h1 w1).Gp b off = some v := by
    intro b off v e
    show (if Late G1 0 0 h1 b then w1.cell? ⟨b, off, none⟩ else G1.Gp b off) = some v
    split
    · exact hi1.gp _ _ _ e
    · exact e
  refine ⟨⟨fun b off v e => ?_, fun b off v e => ?_, hi.llo, hi.nle, hi.sdom, hi.idom, hi.eple, fun B es g e hs => ?_, fun B s pos r e hr => ?_,
    fun B es g hl e hs => ?_, hi.iown⟩, ⟨hle, st.os, st.tape, st.output, st.size, fun b hb hno => ⟨(old b hb).1, fun off => gpo b off hb, hno⟩, rfl, fun _ _ => ⟨fun _ => rfl, rfl⟩, .same fun _ _ => rfl⟩, fun d v v' rv hf hR => ?_⟩
  · have e' : (if Late G1 0 0 h1 b then w1.cell? ⟨b, off, none⟩ else G1.Gp b off) = some v := e
    split at e'
    · exact e'
    · exact hi1.gp _ _ _ e'
  · have e' : G.Gb b off = some v := e
    rw [cell_block (old b (hi.gb_lt e')).1]; exact hi.gb _ _ _ e'
  · obtain ⟨c', t', fz', k1, k2, k3, k4, k6⟩ := hi.live _ _ _ e hs
    exact ⟨c', t', fz', by rw [(old _ (heap_lt k1)).1]; exact k1, k2, k3, k4, k6.mono hle⟩
  · obtain ⟨s', k1, k2⟩ := hi.iter _ _ _ _ e hr
    exact ⟨s', k1, by rw [(old _ (heap_lt k2)).1]; exact k2⟩
  · obtain ⟨k1, k2⟩ := hi.own _ _ _ hl e hs
    exact ⟨fun off => ⟨by rw [gpo _ _ (hi.live_lt e hs)]; exact (k1 off).1, (k1 off).2⟩, k2⟩
  · refine frz_R hi1 (Nat.le_refl _) hp1 (fun B ep g hB e => absurd hB (Nat.not_lt_zero _)) (Nat.zero_le _) (fun B es g off x hB e hs hx => ?_) d v v' rv hf hR
    show (if Late G1 0 0 h1 g.b then w1.cell? ⟨g.b, off, none⟩ else G1.Gp g.b off) = some x
    rw [if_pos ⟨B, es, g, Nat.zero_le _, Nat.zero_le _, e, hs, rfl⟩]; exact hx

theorem OpGood.zero {s : Sem Next} {x x' : V} {h1 : Heap} {d : Nat} (hi : HInv T G lo h w) (hf : frz 0 h1 d x = some x') (hg : OpGood P T 0 (G.zero w) [] w s x h1) : OpGood P T lo G h w s x' h := by
  rcases hg with ⟨nx, rv, w1, G1, k1, k2, k3, k4, k5⟩ | ⟨fid, as, k1, k2⟩
  · obtain ⟨r2, r3, r1⟩ := zero_end hi k4 k5
    exact .inl ⟨nx, rv, w1, _, k1, k2, r1 d x x' rv hf k3, r2, r3⟩
  · refine .inr ⟨fid, as, k1, k2.mono fun e w1 ⟨rv, G1, q1, q2, q3, q4⟩ => ?_⟩
    obtain ⟨r2, r3, r1⟩ := zero_end hi q3 q4
    exact ⟨rv, _, q1, r1 d x x' rv hf q2, r2, r3⟩

theorem RA.zero {vs : List V} {as : Array Value} (hR : RA T (G.inner w) vs as) (hb : belowL 0 vs = true) : RA T (G.zero w) vs as :=
  ⟨hR.1, fun i v rv e1 e2 => zero_R (hR.2 i v rv e1 e2) (belowL_get hb e1)⟩

theorem callFunc_run {fid : FuncId} {fn : Func} {c : Code} (hf : P.funcs[fid]? = some fn) (hn : fn.name ≠ "runtime.NumGoroutine") (hb : fn.body = some c) (as : Array Value) : (callFunc fid as).run P w = .ok (.enter fid as) w := by
  simp [callFunc, hf, hn, hb]

theorem chkFunc_body {fn : Func} {vf : VFunc} (hc : chkFunc P T vp fn vf = true) : ∃ c, fn.body = some c ∧ fn.name ≠ "runtime.NumGoroutine" ∧ chkCode P T vp fn.ntmps c vf.body = true ∧ chkRes P fn.results.toList vf.results = true := by
  unfold chkFunc at hc
  split at hc
  · rename_i c hb
    simp only [Bool.and_eq_true, bne_iff_ne, ne_eq] at hc
    exact ⟨c, hb, hc.2, hc.1.1, hc.1.2⟩
  · simp at hc

/-- A call, from its caller. -/
theorem doCall_ok (tied : Tied P T vp) {n : Nat} (ih : SoundCall P T vp n) {f : Nat} {vs : List V} {x : V} {h' : Heap} (e : doCall (orcN vp n) vp lo h f vs = some (x, h')) (hi : HInv T G lo h w) {as : Array Value} (hR : RA T G vs as) {fid : FuncId}
    (hf : T.fid f = some fid) : OpGood P T lo G h w (callFunc fid as) x h' := by
  unfold doCall at e
  cases hv : vp.fn f with
  | none => simp [hv] at e
  | some vf =>
    simp only [hv] at e
    cases hx : vf.ext with
    | some p =>
      simp only [hx, Option.map_eq_some_iff, Option.bind_eq_some_iff] at e
      obtain ⟨r, ⟨vs', hvs, hp⟩, he⟩ := e
      simp only [Prod.mk.injEq] at he
      obtain ⟨rfl, rfl⟩ := he
      obtain ⟨fid', hf', hext⟩ := tied.ext f vf p hv hx
      rw [hf] at hf'; simp only [Option.some.injEq] at hf'; subst hf'
      obtain ⟨c1, c2⟩ := hext _ _ _ _ _ _ _ (ro_begin hi).1 (view_RA hi hvs hR) hp
      exact .ro (d := 4) hi (frz_closed c1) c2
    | none =>
      obtain ⟨fid', fn, hf', hfn, hc⟩ := tied.fn f vf hv hx
      rw [hf] at hf'; simp only [Option.some.injEq] at hf'; subst hf'
      obtain ⟨c, hb, hnm, _, _⟩ := chkFunc_body hc
      have hrun := callFunc_run (w := w) hfn hnm hb as
      simp only [hx] at e
      split at e
      · simp only [Option.map_eq_some_iff] at e
        obtain ⟨r, hr, he⟩ := e
        have hcall := ih f vf lo vs h r.1 r.2 hv hx hr G w fid as hf hi hR
        refine .inr ⟨fid, as, hrun, hcall.mono fun en w1 ⟨rv, G1, q1, q2, q3, q4⟩ => ?_⟩
        obtain ⟨G', r1, r2, r3⟩ := back_rw hi q2 q3 q4
        rw [he] at r1 r2 r3
        exact ⟨rv, G', q1, r1, r2, r3⟩
      · simp only [Option.bind_eq_some_iff] at e
        obtain ⟨vs', hvs, e⟩ := e
        split at e
        · rename_i hb
          simp only [Option.bind_eq_some_iff, Option.map_eq_some_iff] at e
          obtain ⟨r, hr, y, hy, he⟩ := e
          simp only [Prod.mk.injEq] at he
          obtain ⟨rfl, rfl⟩ := he
          have hcall := ih f vf 0 vs' [] r.1 r.2 hv hx hr (G.zero w) w fid as hf (zero_begin hi) ((view_RA hi hvs hR).zero hb)
          exact .zero hi hy (.inr ⟨fid, as, hrun, hcall⟩)
        · simp only [Option.bind_eq_some_iff, Option.map_eq_some_iff] at e
          obtain ⟨r, hr, y, hy, he⟩ := e
          simp only [Prod.mk.injEq] at he
          obtain ⟨rfl, rfl⟩ := he
          have hcall := ih f vf h.length vs' h r.1 r.2 hv hx hr (G.inner w) w fid as hf (ro_begin hi).1 (view_RA hi hvs hR)
          exact .ro hi hy (.inr ⟨fid, as, hrun, hcall⟩)

theorem method_run {tid : TypeId} {name : String} {fid : FuncId} (hm : methOK P tid name fid = true) (n : Nat) (v : Value) : (method (n + 1) tid v name).run P w = .ok (fid, v) w := by
  unfold methOK at hm
  split at hm
  · rename_i m hmm
    cases hinf : P.info? tid with
    | none => simp [hinf] at hmm
    | some i =>
      simp only [hinf, Option.bind_some] at hmm
      simp only [Bool.and_eq_true] at hm
      obtain ⟨⟨hp, hf⟩, hk⟩ := hm
      split at hf
      · rename_i g hg
        have hgf : g = fid := by simpa using hf
        subst hgf
        obtain ⟨d, hd, hk⟩ := kind_of hk
        have hp' : m.path.toList = [] := by
          have : m.path = #[] := by simpa using hp
          simp [this]
        have hrec : (receiverAt tid (.val v) false (if m.path.isEmpty then some ((name.splitOn ".").getLastD name) else none)).run P w = .ok v w := by
          cases d <;> simp at hk <;> simp [receiverAt, run_und hd, Place.get]
        simp only [method, Sem.run_bind, run_info hinf, Result.andThen_ok, hmm, hp', follow, Sem.run_pure, hg, hrec]
      · simp at hf
  · simp at hm

/-- Every operation. -/
theorem op_ok (tied : Tied P T vp) {n : Nat} (ih : SoundCall P T vp n) {op : Op} {v : VOp} (hc : chkOp P T op v = true) {fr : Fr} {a : Act} (hf : FInv T G fr a.tmps) (hi : HInv T G lo h w) {x : V} {h' : Heap}
    (e : evalOp (orcN vp n) vp lo fr h v = some (x, h')) (dst : Option Tmp) (ty : TypeId) (pos : String) (after : Array Edge) (gd : Option (Nat × Bool)) : OpGood P T lo G h w (execOp a.eval ⟨dst, op, ty, pos, after, gd⟩) x h' := by
  by_cases hn : isCall v = true
  · have ras : ∀ {l : List Operand} {r : List VOpd}, chkOpds T l r = true → RA T G (r.map (opd fr)) (l.map a.eval).toArray := fun hh => by
      obtain ⟨p1, p2⟩ := chkOpds_R hf _ _ hh
      exact ⟨by simpa using p1, fun i v rv e1 e2 => p2 i v rv e1 (by simpa using e2)⟩
    unfold chkOp at hc
    split at hc <;> first | (simp [isCall] at hn; done) | skip
    rename_i v' c
    have hm : (c.args.toList.map a.eval).toArray = c.args.map a.eval := by apply Array.ext'; simp
    split at hc <;> first | (simp [isCall] at hn; done) | skip
    · -- a function by its name
      rename_i f i xs hcal
      simp only [Bool.and_eq_true, beq_iff_eq] at hc
      obtain ⟨ht, hx⟩ := hc
      have hr := ras hx
      rw [hm] at hr
      have hex : execOp a.eval ⟨dst, .call c, ty, pos, after, gd⟩ = callFunc f (c.args.map a.eval) := by
        simp [execOp, resolve, hcal, Act.eval, Deferred.ofValue, invoke]
      rw [hex]
      exact doCall_ok tied ih e hi hr ht
    · -- a function value
      rename_i t ro y xs hcal
      simp only [Bool.and_eq_true] at hc
      obtain ⟨hy, hx⟩ := hc
      have hr := ras hx
      rw [hm] at hr
      have hR := chkOpd_R hf hy
      simp only [evalOp] at e
      split at e
      · rename_i f as bs hfv
        rw [hfv] at hR
        obtain ⟨fid, ra, rb, hev, ht, h1, h2, h3, h4⟩ := hR.func_inv
        split at e
        · simp at e
        · have hex : execOp a.eval ⟨dst, .call c, ty, pos, after, gd⟩ = callFunc fid (ra ++ c.args.map a.eval ++ rb) := by
            simp [execOp, resolve, hcal, hev, Deferred.ofValue, invoke]
          rw [hex]
          exact doCall_ok tied ih e hi ((RA.append ⟨h1, h3⟩ hr).append ⟨h2, h4⟩) ht
      · simp at e
    · -- a method of an interface value
      rename_i r m i y xs hcal
      simp only [Bool.and_eq_true, beq_iff_eq] at hc
      obtain ⟨⟨hmn, hy⟩, hx⟩ := hc
      have hr := ras hx
      rw [hm] at hr
      have hR := chkOpd_R hf hy
      simp only [evalOp] at e
      split at e
      · rename_i t v0 hfv
        simp only [Option.bind_eq_some_iff] at e
        obtain ⟨f, hmt, e⟩ := e
        rw [hfv] at hR
        obtain ⟨tid, rv, hev, ht, h1⟩ := hR.iface_inv
        obtain ⟨tid', fid, ht', hf', hmo⟩ := tied.meth _ _ _ hmt
        rw [ht] at ht'; simp only [Option.some.injEq] at ht'; subst ht'
        rw [hmn] at hmo
        have hcm : (execOp a.eval ⟨dst, .call c, ty, pos, after, gd⟩).run P w = (callFunc fid (#[rv] ++ c.args.map a.eval)).run P w := by
          have hmr := method_run (w := w) hmo (P.types.size + Made.depth - 1) rv
          have hd : P.types.size + Made.depth - 1 + 1 = P.types.size + Made.depth := by
            have : 0 < Made.depth := by decide
            omega
          rw [hd] at hmr
          have key : ∀ args : Array Value, (invoke (.fn (.method m) #[]) (#[.iface tid rv] ++ args)).run P w = (callFunc fid (#[rv] ++ args)).run P w := by
            intro args
            have hargs : (#[Value.iface tid rv] ++ args).extract 1 (#[Value.iface tid rv] ++ args).size = args := by
              apply Array.ext'
              simp only [Array.toList_extract, Array.toList_append, Array.size_append]
              simp [List.take_of_length_le]
            have h0 : (#[Value.iface tid rv] ++ args)[0]? = some (.iface tid rv) := by
              rw [Array.getElem?_append_left (by show 0 < 1; omega)]; rfl
            unfold invoke
            simp only [h0, hargs, callMethod]
            simp [program, Sem.run, hmr]
          have : execOp a.eval ⟨dst, .call c, ty, pos, after, gd⟩ = invoke (.fn (.method m) #[]) (#[.iface tid rv] ++ c.args.map a.eval) := by
            simp only [execOp, resolve, hcal, hev]
            rfl
          rw [this]
          exact key _
        have := doCall_ok tied ih e hi (RA.append (.one h1) hr) hf'
        rcases this with ⟨nx, rv', w1, G1, k1, k2⟩ | ⟨f1, a1, k1, k2⟩
        · exact .inl ⟨nx, rv', w1, G1, hcm.trans k1, k2⟩
        · exact .inr ⟨f1, a1, hcm.trans k1, k2⟩
      · simp at e
    · exact absurd hc (by simp)
    · exact absurd hc (by simp)
  · exact .inl (mem_ok tied.inj hc (by simpa using hn) hf hi e dst ty pos after gd)

/-- An operation's rule. -/
theorem OpGood.wp {o : Oper} {a : Act} {x : V} {h' : Heap} (hg : OpGood P T lo G h w (execOp a.eval o) x h') {next : Act → World → Prop} {Q : Exit → Act → World → Prop}
    (hn : ∀ rv w' G', R T G' x rv → HInv T G' lo h' w' → Stp lo G h w G' h' w' → next (a.put o.dst rv) w') : o.wp P a w next Q := by
  unfold Oper.wp
  rcases hg with ⟨nx, rv, w1, G1, k1, k2, k3, k4, k5⟩ | ⟨fid, as, k1, k2⟩
  · rw [k1]
    rcases k2 with rfl | ⟨rfl, rfl⟩
    · exact hn rv w1 G1 k3 k4 k5
    · exact hn _ w1 G1 k3 k4 k5
  · rw [k1]
    refine k2.mono fun e w1 ⟨rv, G1, q1, q2, q3, q4⟩ => ?_
    subst q1
    exact hn rv w1 G1 q2 q3 q4

end
end Go.VE
