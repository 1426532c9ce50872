/- Regions that draw their order: one operation. -/
import Derived.Test.YtgkdconajdjkgaaGreatVeDraw
namespace Go.VE
set_option linter.unusedVariables false
set_option linter.unnecessarySimpa false
set_option linter.unusedSimpArgs false
open Classical

section
variable {P : Program} {T : Tbl} {vp : VP} {G : Gh} {w : World} {lo : Nat} {h : Heap} {G0 : Gh} {w0 : World} {h0 : Heap}
variable {ops : Array Oper} {nt : Nat} {ds : List VDt} {n : Nat} {F : Nat → Fr} {H : Nat → Heap} {X : Nat → V}

/-- Whether an item is wanted: by what the evaluator did. -/
theorem wanted_of {O : Orc} {o : Oper} {it : VIt} (hc : chkIt P T ops nt o it = true) {fr : Fr} {a : Act} (hf : FInv T G fr a.tmps) {r : V × Heap} (e : stepIt O vp lo it fr h = some r) :
    (Region.wanted o (yielded ops a.tmps) = true ∧ evalOp O vp lo fr h it.op = some r) ∨ (Region.wanted o (yielded ops a.tmps) = false ∧ r = (passed, h)) := by
  obtain ⟨h1, h2, h3, h4⟩ := chkIt_split hc
  unfold stepIt at e
  rcases h4 with ⟨g1, g2⟩ | ⟨j, want, t, g1, g2, g3⟩
  · rw [wanted_none g1]
    simp only [g2] at e
    exact .inl ⟨rfl, e⟩
  · simp only [g2] at e
    split at e
    · rename_i b hb
      rw [wanted_bool g1 g3 hf hb]
      by_cases hw : b = want
      · rw [if_pos hw] at e
        exact .inl ⟨by simp [hw], e⟩
      · rw [if_neg hw] at e
        exact .inr ⟨by simp [hw], by simpa using e.symm⟩
    · rename_i hb
      rw [wanted_passed g1 g3 hf hb]
      exact .inr ⟨rfl, by simpa using e.symm⟩
    · simp at e

/-- A new variable, as the model makes it. -/
theorem fresh_run {op : Op} {v : VOp} (hc : chkOp P T op v = true) (hcl : clsOf vp v = .fresh) {fr : Fr} {a : Act} (hf : FInv T G fr a.tmps) {x : V} (e : freshV fr v = some x) (dst : Option Tmp) (ty : TypeId) (pos : String) (after : Array Edge) (gd : Option (Nat × Bool)) :
    ∃ rv t, (execOp a.eval ⟨dst, op, ty, pos, after, gd⟩).run P w = .ok (.value (.pointer (some ⟨w.heap.size, 0, none⟩))) (w.alloc (.cells rv.cells t (0, 0))) ∧ okV x = true ∧ R T G x rv := by
  have nv : ∀ t rv, (newVar t rv).run P w = .ok ⟨w.heap.size, 0, none⟩ (w.alloc (.cells rv.cells t (0, 0))) := fun _ _ => rfl
  cases v <;> first | (simp [clsOf] at hcl; done) | (simp only [clsOf] at hcl; split at hcl <;> simp at hcl; done) | skip
  case alloc z =>
    cases op <;> simp only [chkOp, Bool.false_eq_true] at hc
    case call c => split at hc <;> first | contradiction | simp at hc
    rename_i t
    unfold zeroIs at hc
    split at hc
    · rename_i zv hzv
      simp only [freshV, Option.some.injEq] at e
      subst e
      refine ⟨zv, t, ?_, isVal_ok hc, isVal_R _ _ hc⟩
      simp [execOp, Instr.alloc, run_zero hzv, nv]
    · simp at hc
  case box y =>
    cases op <;> simp only [chkOp, Bool.false_eq_true] at hc
    case call c => split at hc <;> first | contradiction | simp at hc
    rename_i t z
    simp only [freshV] at e
    split at e
    · rename_i hok
      simp only [Option.some.injEq] at e
      subst e
      refine ⟨a.eval z, t, ?_, hok, chkOpd_R hf hc⟩
      simp [execOp, Instr.box, nv]
    · simp at e

theorem loadV_append {hp bs : Heap} {agg : Bool} {m : Nat} {y x : V} (e : loadV hp agg m y = some x) : loadV (hp ++ bs) agg m y = some x := by
  unfold loadV at e ⊢
  split at e
  · exact e
  · split at e
    · rename_i B ep i o es hB
      rw [List.getElem?_append_left (List.getElem?_eq_some_iff.1 hB).1]
      simp only [hB]; exact e
    · simp at e
  · simp at e

theorem loadV_short (hi : HInv T G lo h w) {bs : Heap} {agg : Bool} {m : Nat} {y x : V} (e : loadV (h ++ bs) agg m y = some x) {rv : Value} (hR : R T G y rv) : loadV h agg m y = some x := by
  unfold loadV at e ⊢
  split at e
  · exact e
  · rename_i B ep i o
    obtain ⟨g, hg, _⟩ := hR.ptr_inv
    rw [List.getElem?_append_left (hi.sdomh hg)] at e
    exact e
  · simp at e

theorem load_opd {op : Op} {agg : Bool} {m : Nat} {y : VOpd} (hc : chkOp P T op (.load agg m y) = true) : ∃ x, chkOpd T x y = true := by
  cases op <;> simp only [chkOp, Bool.false_eq_true] at hc
  case call c => split at hc <;> first | contradiction | simp at hc
  rename_i t x
  simp only [Bool.and_eq_true] at hc
  exact ⟨x, hc.2⟩

theorem freshV_congr {fr fr' : Fr} {op : VOp} (h : ∀ y ∈ vopds op, opd fr y = opd fr' y) : freshV fr op = freshV fr' op := by
  cases op <;> try rfl
  case box x => simp only [freshV, h x (by simp [vopds])]

section step
variable {L : Array Bool} {k : Nat} {a : Act}
variable (tied : Tied P T vp) (ih : SoundCall P T vp n) (spec : ∀ q d, ds[q]? = some d → PosOK P T vp ops nt ds q d) (tr : Trc (orcN vp n) vp lo ds 0 F H X) (shut : Shut ops L) (hb0 : h0.length ≤ (H 0).length) (hlo : lo ≤ h0.length)

/-- What stays the same of what is not yet there. -/
theorem vt_same {L' : Array Bool} (spec : ∀ q d, ds[q]? = some d → PosOK P T vp ops nt ds q d) (tr : Trc (orcN vp n) vp lo ds 0 F H X) (shut : Shut ops L) (di : DI T vp lo G0 h0 w0 nt ds F H X L k G a w) {G' : Gh} {w' : World} (hi' : HInv T G' lo (H k) w') (mono : Mono G (H k) G' (H k))
    (hL : ∀ (p : Nat) (d : VDt), ds[p]? = some d → L'.getD d.ix false = false → L.getD d.ix false = false) :
    ∀ p d v, ds[p]? = some d → L'.getD d.ix false = false → clsOf vp d.it.op = .fresh → H (p + 1) = H p ++ [.arr [v]] → noW vp ds k p → G'.sg (H p).length 1 = none ∧ h0.length ≤ (H p).length := by
  intro p d v hd hn hc hp hw
  have hn := hL p d hd hn
  have hpl : p < ds.length := (List.getElem?_eq_some_iff.1 hd).1
  refine ⟨?_, (di.vt p d v hd hn hc hp hw).2⟩
  cases hs : G'.sg (H p).length 1 with
  | none => rfl
  | some g =>
    exfalso
    have hlt := hi'.sdomh hs
    rcases Nat.lt_or_ge p k with hpk | hpk
    · have hw2 : noW vp ds (p + 1) k := by
        intro q dq h1 h2 hq hcq
        by_cases hl : L.getD dq.ix false = true
        · have := (pairOK_split (after_pair spec shut hd hn (by omega) hq hl)).1
          rw [hc, hcq] at this; simp [clsFit] at this
        · have hl' : L.getD dq.ix false = false := by simpa using hl
          rcases di.kd with h0 | ⟨dk, hk1, hk2, hk3⟩
          · omega
          · by_cases hqk : q = k - 1
            · subst hqk; rw [hq] at hk1; simp only [Option.some.injEq] at hk1; subst hk1; exact hl hk2
            · have := (pairOK_split (after_pair spec shut hq hl' (by omega) hk1 hk2)).1
              rw [hcq] at this
              rw [clsFit_of_wr this] at hk3; simp [heavy] at hk3
      obtain ⟨bs, hbs⟩ := H_ext tr k (by omega) di.kN hw2
      have hget : (H k)[(H p).length]? = some (.arr [v]) := by
        rw [hbs, hp, List.append_assoc, List.getElem?_append_right (Nat.le_refl _)]; simp
      obtain ⟨es, e1, e2, e3⟩ := mono.2 _ _ hlt hget
      rw [hget] at e1
      simp only [Option.some.injEq, Blk.arr.injEq] at e1
      subst e1
      have := e3 rfl (by simp [hs])
      have hvt := (di.vt p d v hd hn hc hp hw).1
      simp only [List.length_cons, List.length_nil, Nat.zero_add] at this
      rw [hvt] at this; simp at this
    · obtain ⟨bs, hbs⟩ := H_ext tr p hpk (by omega) hw
      rw [hbs] at hlt
      simp at hlt
      omega

include spec shut in
/-- The frame behind one more place. -/
theorem fr_next {j : Nat} {d : VDt} (hd : ds[j]? = some d) (hsz : d.ix < L.size) (hn : L.getD d.ix false = false) (di : DI T vp lo G0 h0 w0 nt ds F H X L k G a w) {G' : Gh} (hle : G.le G') {rv : Value} (hR : R T G' (X j) rv) (hdt : ∀ t, d.it.dst = some t → t < nt) :
    FInv T G' (frS (L.setIfInBounds d.ix true) ds (F 0) X ds.length) (a.put d.it.dst rv).tmps := by
  have h1 := (di.fr.mono hle).aput hR d.it.dst fun t ht => Nat.lt_of_lt_of_le (hdt t ht) di.sz
  refine h1.ext fun t => ?_
  rw [lk_frS_set spec hd hsz hn (fun p dp hlt hp hl ht ht' => ((pairOK_split (after_pair spec shut hd hn hlt hp hl)).2.2.1 t ht).2 ht') ds.length, lk_put']
  by_cases ht : d.it.dst = some t
  · rw [if_pos ⟨(List.getElem?_eq_some_iff.1 hd).1, ht⟩, if_pos ht]
  · rw [if_neg (fun hh => ht hh.2), if_neg ht]

theorem getD_set_self {d : VDt} (hsz : d.ix < L.size) : (L.setIfInBounds d.ix true).getD d.ix false = true := by simp [Array.getD_eq_getD_getElem?, Array.getElem?_setIfInBounds, hsz]
theorem getD_set_of {i j : Nat} (h : L.getD i false = true) : (L.setIfInBounds j true).getD i false = true := by
  rw [Array.getD_eq_getD_getElem?] at *
  rw [Array.getElem?_setIfInBounds]
  by_cases hij : j = i
  · subst hij
    have : j < L.size := by
      rcases Nat.lt_or_ge j L.size with hh | hh
      · exact hh
      · rw [Array.getElem?_eq_none hh] at h; simp at h
    simp [this]
  · rw [if_neg hij]; exact h
theorem getD_of_set {i j : Nat} (h : (L.setIfInBounds j true).getD i false = false) : L.getD i false = false := by
  cases hh : L.getD i false with
  | false => rfl
  | true => rw [getD_set_of hh] at h; simp at h
theorem getD_set_cases {i j : Nat} (h : (L.setIfInBounds j true).getD i false = true) : i = j ∨ L.getD i false = true := by
  by_cases hij : j = i
  · exact .inl hij.symm
  · rw [Array.getD_eq_getD_getElem?, Array.getElem?_setIfInBounds, if_neg hij] at h
    exact .inr (by rw [Array.getD_eq_getD_getElem?]; exact h)

include tied ih spec tr shut hlo in
theorem step_ok {Q : Exit → Act → World → Prop} {K : Act → World → Prop} {j : Nat} {d : VDt} (di : DI T vp lo G0 h0 w0 nt ds F H X L k G a w) (hd : ds[j]? = some d) (hsz : d.ix < L.size) (hn : L.getD d.ix false = false)
    (hr : ∀ e ∈ (ops.getD d.ix default).after.toList, Region.binds .any e = true → L.getD e.on false = true)
    (hK : ∀ a' w' k' G', DI T vp lo G0 h0 w0 nt ds F H X (L.setIfInBounds d.ix true) k' G' a' w' → K a' w') : wpOp P ops Q d.ix K a w := by
  have hjl : j < ds.length := (List.getElem?_eq_some_iff.1 hd).1
  have pos := spec j d hd
  have hop : ops[d.ix]? = some (ops.getD d.ix default) := by
    rw [Array.getD_eq_getD_getElem?]; simp [pos.lt]
  obtain ⟨c1, c2, c3, c4⟩ := chkIt_split pos.chk
  unfold wpOp
  simp only [hop]
  -- neighbours
  have bef : ∀ p dp, p < j → ds[p]? = some dp → L.getD dp.ix false = false → pairOK vp p dp d = true := fun p dp hlt hp hnp => before_pair spec shut hd hr hlt hp hnp
  have aft : ∀ q dq, j < q → ds[q]? = some dq → L.getD dq.ix false = true → pairOK vp j d dq = true := fun q dq hlt hq hl => after_pair spec shut hd hn hlt hq hl
  have reads : ∀ t ∈ itReads d.it, lk (F j) t = lk (frS L ds (F 0) X ds.length) t := fun t ht => by
    rw [lk_frS tr hd hn (fun p dp hlt hp hnp hdst => ((pairOK_split (bef p dp hlt hp hnp)).2.2.1 t hdst).1 ht) (fun p dp hlt hp hl hdst => (pairOK_split (aft p dp hlt hp hl)).2.2.2 t hdst ht), Nat.min_eq_right (by omega)]
  have hstep : ∀ {lo' : Nat} {hp : Heap} {r : V × Heap}, stepIt (orcN vp n) vp lo' d.it (F j) hp = some r → stepIt (orcN vp n) vp lo' d.it (frS L ds (F 0) X ds.length) hp = some r := fun e => by
    rw [← stepIt_congr reads]; exact e
  have hs := (tr.step j d hd).1
  have hdt : ∀ t, d.it.dst = some t → t < nt := fun t ht => c2 t (by rw [c1]; exact ht)
  have tmono : ∀ (p : Nat) (dp : VDt), ds[p]? = some dp → (L.setIfInBounds d.ix true).getD dp.ix false = false → L.getD dp.ix false = false := fun p dp _ hh => getD_of_set hh
  -- an item that leaves memory as it is, run over the heap of place k
  have easy : stepIt (orcN vp n) vp lo d.it (F j) (H k) = some (X j, H k) → heavy (clsOf vp d.it.op) = false →
      if Region.wanted (ops.getD d.ix default) (yielded ops a.tmps) then (ops.getD d.ix default).wp P a w K Q ∨ ((ops.getD d.ix default).asks P a w ∧ LetsOut Q) else K (a.put (ops.getD d.ix default).dst undef) w := by
    intro he hh
    refine it_ok tied ih pos.chk di.fr di.hi (hstep he) fun rv w' G' r1 r2 r3 => ?_
    refine hK _ _ k G' ⟨di.kN, di.kd.imp id fun ⟨dk, h1, h2, h3⟩ => ⟨dk, h1, getD_set_of h2, h3⟩, fun p dp hp hl hv => ?_, ?_, r2, di.st.trans r3, ?_, ?_, vt_same spec tr shut di r2 r3.mono tmono⟩
    · rcases getD_set_cases hl with hx | hl
      · have := ix_inj spec hp hd hx
        subst this; rw [hp] at hd; simp only [Option.some.injEq] at hd; subst hd
        rw [hh] at hv; simp at hv
      · exact di.km p dp hp hl hv
    · rw [c1]; exact fr_next spec shut hd hsz hn di r3.le r1 hdt
    · rw [(aput_size _ _ _).2]; exact di.df
    · rw [(aput_size _ _ _).1]; exact di.sz
  -- the places that moved memory: none behind place j that is listed, where they may not
  have nok : (∀ q dq, j < q → ds[q]? = some dq → L.getD dq.ix false = true → heavy (clsOf vp dq.it.op) = false) → k ≤ j := by
    intro hh
    rcases di.kd with h0 | ⟨dk, h1, h2, h3⟩
    · omega
    · rcases Nat.lt_trichotomy (k - 1) j with hl | hl | hl
      · omega
      · rw [hl, hd] at h1; simp only [Option.some.injEq] at h1; subst h1; rw [hn] at h2; simp at h2
      · rw [hh _ dk hl h1 h2] at h3; simp at h3
  -- places from k on that are listed moved nothing
  have light : ∀ p dp, k ≤ p → ds[p]? = some dp → L.getD dp.ix false = true → heavy (clsOf vp dp.it.op) = false := by
    intro p dp hkp hp hl
    cases hh : heavy (clsOf vp dp.it.op) with
    | false => rfl
    | true => have := di.km p dp hp hl hh; omega
  -- a place that moved memory, done: what is left to show
  have done : ∀ {k' : Nat} {G' : Gh} {rv : Value} {w' : World}, k' ≤ ds.length → heavy (clsOf vp d.it.op) = true → j < k' → (k' = k ∨ k' = j + 1 ∧ k ≤ j) → G.le G' → R T G' (X j) rv → HInv T G' lo (H k') w' → Stp lo G0 h0 w0 G' (H k') w' →
      (∀ p dp v, ds[p]? = some dp → (L.setIfInBounds d.ix true).getD dp.ix false = false → clsOf vp dp.it.op = .fresh → H (p + 1) = H p ++ [.arr [v]] → noW vp ds k' p → G'.sg (H p).length 1 = none ∧ h0.length ≤ (H p).length) → K (a.put (ops.getD d.ix default).dst rv) w' := by
    intro k' G' rv w' hkn hv hjk hkk hle hR hi' st' hvt
    refine hK _ _ k' G' ⟨hkn, ?_, fun p dp hp hl hvp => ?_, ?_, hi', st', ?_, ?_, hvt⟩
    · rcases hkk with rfl | ⟨rfl, _⟩
      · rcases di.kd with h0 | ⟨dk, h1, h2, h3⟩
        · omega
        · exact .inr ⟨dk, h1, getD_set_of h2, h3⟩
      · exact .inr ⟨d, hd, getD_set_self hsz, hv⟩
    · rcases getD_set_cases hl with hx | hl
      · have := ix_inj spec hp hd hx
        omega
      · have := di.km p dp hp hl hvp
        rcases hkk with rfl | ⟨rfl, hkj⟩ <;> omega
    · rw [c1]; exact fr_next spec shut hd hsz hn di hle hR hdt
    · rw [(aput_size _ _ _).2]; exact di.df
    · rw [(aput_size _ _ _).1]; exact di.sz
  -- what lies beyond is not there
  have far : ∀ {k' : Nat} {G' : Gh} {w' : World}, HInv T G' lo (H k') w' → Stp lo G0 h0 w0 G' (H k') w' → ∀ p dp, k' ≤ p → ds[p]? = some dp → noW vp ds k' p → G'.sg (H p).length 1 = none ∧ h0.length ≤ (H p).length := by
    intro k' G' w' hi' st' p dp hkp hp hw
    obtain ⟨bs, hbs⟩ := H_ext tr p hkp (by have := (List.getElem?_eq_some_iff.1 hp).1; omega) hw
    have h0' := st'.mono.1
    refine ⟨?_, by rw [hbs]; simp; omega⟩
    cases hsg : G'.sg (H p).length 1 with
    | none => rfl
    | some g =>
      have hlt := hi'.sdomh hsg
      rw [hbs] at hlt; simp at hlt; omega
  -- no unlisted writing ahead of place k
  have unl : ∀ q dq, q < k → ds[q]? = some dq → L.getD dq.ix false = false → clsOf vp dq.it.op ≠ .wr := by
    intro q dq hqk hq hl hwr
    rcases di.kd with h0 | ⟨dk, h1, h2, h3⟩
    · omega
    · by_cases hqk1 : q = k - 1
      · subst hqk1; rw [hq] at h1; simp only [Option.some.injEq] at h1; subst h1; rw [hl] at h2; simp at h2
      · have := (pairOK_split (after_pair spec shut hq hl (by omega) h1 h2)).1
        rw [hwr] at this
        rw [clsFit_of_wr this] at h3; simp [heavy] at h3
  cases hcl : clsOf vp d.it.op with
  | reg => exact easy ((step_reg hcl hs).2 _) (by rw [hcl]; rfl)
  | ld =>
    obtain ⟨hsame, agg, m, y, hload, hh⟩ := step_ld hcl hs
    refine easy ?_ (by rw [hcl]; rfl)
    rcases hh with ⟨hl, hh⟩ | hh
    · refine hh _ ?_
      -- the address, as it is known
      have hya : opd (F j) y = opd (frS L ds (F 0) X ds.length) y := by
        refine opd_congr (l := [y]) (fun t ht => reads t ?_) (by simp)
        refine List.mem_append_left _ ?_
        rw [hload]; exact ht
      rcases Nat.lt_or_ge j k with hjk | hjk
      · -- behind place j, up to place k
        have key : ∀ b, j < b → b ≤ k → loadV (H b) agg m (opd (F j) y) = some (X j) := by
          intro b
          induction b with
          | zero => omega
          | succ b ihb =>
            intro hjb hbk
            have hbl : b < ds.length := by have := di.kN; omega
            have hdb : ds[b]? = some ds[b] := List.getElem?_eq_getElem hbl
            rcases Nat.eq_or_lt_of_le (Nat.le_of_lt_succ hjb) with rfl | hlt
            · rw [hsame]; exact hl
            · have hb := ihb hlt (by omega)
              by_cases hwr : clsOf vp (ds[b]).it.op = .wr
              · have hlb : L.getD (ds[b]).ix false = true := by
                  rcases di.kd with h0 | ⟨dk, h1, h2, h3⟩
                  · omega
                  · by_cases hbk1 : b = k - 1
                    · subst hbk1; rw [hdb] at h1; simp only [Option.some.injEq] at h1; rw [h1]; exact h2
                    · cases hlb : L.getD (ds[b]).ix false with
                      | true => rfl
                      | false =>
                        have := (pairOK_split (after_pair spec shut hdb hlb (by omega) h1 h2)).1
                        rw [hwr] at this
                        rw [clsFit_of_wr this] at h3; simp [heavy] at h3
                exact tr.chk j b d _ agg m y hlt hd hdb (by rw [Nat.zero_add]; exact (pairOK_split (aft b _ hlt hdb hlb)).2.1 hcl hwr) hload hl
              · obtain ⟨bs, hbs⟩ := H_ext1 tr hdb hwr
                rw [hbs]; exact loadV_append hb
        exact key k hjk (Nat.le_refl _)
      · have hnw : noW vp ds k j := by
          intro q dq h1 h2 hq hwr
          by_cases hlq : L.getD dq.ix false = true
          · have := light q dq h1 hq hlq
            rw [hwr] at this; simp [heavy] at this
          · have := (pairOK_split (bef q dq h2 hq (by simpa using hlq))).1
            rw [hwr, hcl] at this; simp [clsFit] at this
        obtain ⟨bs, hbs⟩ := H_ext tr j hjk (by omega) hnw
        rw [hbs] at hl
        have hlo2 : chkOp P T (ops.getD d.ix default).op (.load agg m y) = true := by rw [← hload]; exact c3
        obtain ⟨xo, hxo⟩ := load_opd hlo2
        have hR := chkOpd_R di.fr hxo
        rw [hya] at hl ⊢
        exact loadV_short di.hi hl hR
    · exact hh _
  | wr =>
    have hkj : k ≤ j := nok fun q dq hlt hq hl => by
      have := (pairOK_split (aft q dq hlt hq hl)).1
      rw [hcl] at this
      rw [clsFit_of_wr this]; rfl
    have hHk : H j = H k := H_same tr j hkj (by omega) fun q dq h1 h2 hq => by
      by_cases hlq : L.getD dq.ix false = true
      · exact .inl (light q dq h1 hq hlq)
      · have := (pairOK_split (bef q dq h2 hq (by simpa using hlq))).1
        rw [hcl] at this
        rcases clsFit_wr this with hh | hh <;> (rw [hh]; exact .inl rfl)
    have hiJ : HInv T G lo (H j) w := by rw [hHk]; exact di.hi
    have stJ : Stp lo G0 h0 w0 G (H j) w := by rw [hHk]; exact di.st
    refine it_ok tied ih pos.chk di.fr hiJ (hstep hs) fun rv w' G' r1 r2 r3 => ?_
    have st' := stJ.trans r3
    refine done (k' := j + 1) (by omega) (by rw [hcl]; rfl) (Nat.lt_succ_self _) (.inr ⟨rfl, hkj⟩) r3.le r1 r2 st' fun p dp v hp hnp hfp hHp hw => ?_
    rcases Nat.lt_trichotomy p j with hl | hl | hl
    · have := (pairOK_split (bef p dp hl hp (tmono p dp hp hnp))).1
      rw [hfp, hcl] at this; simp [clsFit] at this
    · subst hl; rw [hp] at hd; simp only [Option.some.injEq] at hd; subst hd; rw [hcl] at hfp; simp at hfp
    · exact far r2 st' p dp (by omega) hp hw
  | ro =>
    have hkj : k ≤ j := nok fun q dq hlt hq hl => by
      have := (pairOK_split (aft q dq hlt hq hl)).1
      rw [hcl] at this
      rcases clsFit_of_ro this with hh | hh <;> (rw [hh]; rfl)
    have hnw : noW vp ds k j := by
      intro q dq h1 h2 hq hwr
      by_cases hlq : L.getD dq.ix false = true
      · have := light q dq h1 hq hlq
        rw [hwr] at this; simp [heavy] at this
      · have := (pairOK_split (bef q dq h2 hq (by simpa using hlq))).1
        rw [hwr, hcl] at this; simp [clsFit] at this
    obtain ⟨bs, hbs⟩ := H_ext tr j hkj (by omega) hnw
    have hiJ : HInv T G lo (H j) w := by rw [hbs]; exact virt di.hi bs
    have stJ : Stp lo G0 h0 w0 G (H j) w := by rw [hbs]; exact di.st.trans (virt_stp di.hi bs)
    obtain ⟨hsame, hany⟩ := step_ro hcl hs
    refine it_ok (lo := (H j).length) tied ih pos.chk di.fr (raise hiJ) (hstep (hany _)) fun rv w' G' r1 r2 r3 => ?_
    rw [hsame] at r2 r3
    obtain ⟨q1, q2⟩ := lower hiJ r2 r3
    have st' : Stp lo G0 h0 w0 G' (H (j + 1)) w' := by rw [hsame]; exact stJ.trans q2
    have hi' : HInv T G' lo (H (j + 1)) w' := by rw [hsame]; exact q1
    refine done (k' := j + 1) (by omega) (by rw [hcl]; rfl) (Nat.lt_succ_self _) (.inr ⟨rfl, hkj⟩) r3.le r1 hi' st' fun p dp v hp hnp hfp hHp hw => ?_
    rcases Nat.lt_trichotomy p j with hl | hl | hl
    · have hvt := di.vt p dp v hp (tmono p dp hp hnp) hfp hHp fun q dq h1 h2 hq => hnw q dq h1 (by omega) hq
      refine ⟨?_, hvt.2⟩
      cases hsg : G'.sg (H p).length 1 with
      | none => rfl
      | some g =>
        have hlt := q1.sdomh hsg
        rw [(r3.slo _ hlt).1 1, hvt.1] at hsg
        simp at hsg
    · subst hl; rw [hp] at hd; simp only [Option.some.injEq] at hd; subst hd; rw [hcl] at hfp; simp at hfp
    · exact far hi' st' p dp (by omega) hp hw
  | fresh =>
    have hnw : noW vp ds k j := by
      intro q dq h1 h2 hq hwr
      by_cases hlq : L.getD dq.ix false = true
      · have := light q dq h1 hq hlq
        rw [hwr] at this; simp [heavy] at this
      · have := (pairOK_split (bef q dq h2 hq (by simpa using hlq))).1
        rw [hwr, hcl] at this; simp [clsFit] at this
    have hnw2 : ∀ q dq, j < q → (q < k ∨ noW vp ds k (q + 1)) → ds[q]? = some dq → clsOf vp dq.it.op ≠ .wr := by
      intro q dq h1 h2 hq hwr
      by_cases hlq : L.getD dq.ix false = true
      · have := (pairOK_split (aft q dq h1 hq hlq)).1
        rw [hcl, hwr] at this; simp [clsFit] at this
      · rcases Nat.lt_or_ge q k with hqk | hqk
        · exact unl q dq hqk hq (by simpa using hlq) hwr
        · rcases h2 with h2 | h2
          · omega
          · exact h2 q dq hqk (Nat.lt_succ_self _) hq hwr
    have self_listed : ∀ {dp : VDt}, ds[j]? = some dp → (L.setIfInBounds d.ix true).getD dp.ix false = false → False := fun hp hnp => by
      rw [hd] at hp; simp only [Option.some.injEq] at hp; subst hp
      rw [getD_set_self hsz] at hnp; simp at hnp
    rcases step_fresh hcl hs with ⟨v, hv, hX, hH⟩ | ⟨hX, hH, hany⟩
    · -- it runs
      have hvt := di.vt j d v hd hn hcl hH hnw
      rcases wanted_of pos.chk di.fr (hstep hs) with ⟨hwt, _⟩ | ⟨_, hpass⟩
      · rw [hwt, if_pos rfl]
        refine .inl ?_
        have hvf : freshV (frS L ds (F 0) X ds.length) d.it.op = some v := by
          rw [← freshV_congr (fr := F j) fun y hy => opd_congr (l := vopds d.it.op) (fun t ht => reads t (List.mem_append_left _ ht)) hy]; exact hv
        -- the heap behind it, and where its block stands there
        obtain ⟨k', hk', bs1, bs2, hb1, hb2, hkn⟩ : ∃ k', (k' = k ∧ j < k ∨ k' = j + 1 ∧ k ≤ j) ∧ ∃ bs1 bs2, H k' = H (j + 1) ++ bs1 ∧ H k' = H k ++ bs2 ∧ k' ≤ ds.length := by
          rcases Nat.lt_or_ge j k with hjk | hjk
          · obtain ⟨bs1, hb1⟩ := H_ext tr k (show j + 1 ≤ k by omega) di.kN fun q dq h1 h2 hq => hnw2 q dq (by omega) (.inl h2) hq
            exact ⟨k, .inl ⟨rfl, hjk⟩, bs1, [], hb1, by simp, di.kN⟩
          · obtain ⟨bs, hbs⟩ := H_ext tr j hjk (by omega) hnw
            exact ⟨j + 1, .inr ⟨rfl, hjk⟩, [], bs ++ [.arr [v]], by simp, by rw [hH, hbs, List.append_assoc], by omega⟩
        have hiK : HInv T G lo (H k') w := by rw [hb2]; exact virt di.hi bs2
        have stK : Stp lo G0 h0 w0 G (H k') w := by rw [hb2]; exact di.st.trans (virt_stp di.hi bs2)
        have hget : (H k')[(H j).length]? = some (.arr [v]) := by
          rw [hb1, hH, List.append_assoc, List.getElem?_append_right (Nat.le_refl _)]; simp
        obtain ⟨o, ho⟩ : ∃ o, ops.getD d.ix default = o := ⟨_, rfl⟩
        obtain ⟨dst, op, ty, ps, after, gd⟩ := o
        obtain ⟨rv, t, f1, f2, f3⟩ := fresh_run (w := w) (by rw [ho] at c3; exact c3) hcl di.fr hvf dst ty ps after gd
        obtain ⟨G', g1, g2, g3, g4, g5⟩ := realize hiK stK hget hvt.2 hlo hvt.1 f2 f3 t
        unfold Oper.wp
        rw [ho, f1]
        rw [Oper.upon_value]
        rw [← ho]
        refine done (k' := k') hkn (by rw [hcl]; rfl) (by omega) (by omega) g3 (by rw [hX]; exact g4) g1 g2 fun p dp v' hp hnp hfp hHp hw => ?_
        rcases Nat.lt_trichotomy p j with hl | hl | hl
        · have hnp' := tmono p dp hp hnp
          have hvp := di.vt p dp v' hp hnp' hfp hHp fun q dq h1 h2 hq => hnw q dq h1 (by omega) hq
          obtain ⟨bs, hbs⟩ := H_ext tr j (show p + 1 ≤ j by omega) (by omega) fun q dq h1 h2 hq hwr => by
            by_cases hlq : L.getD dq.ix false = true
            · have := (pairOK_split (after_pair spec shut hp hnp' (by omega) hq hlq)).1
              rw [hfp, hwr] at this; simp [clsFit] at this
            · have := (pairOK_split (bef q dq h2 hq (by simpa using hlq))).1
              rw [hwr, hcl] at this; simp [clsFit] at this
          have hne : (H p).length ≠ (H j).length := by rw [hbs, hHp]; simp
          exact ⟨by rw [g5 _ hne]; exact hvp.1, hvp.2⟩
        · subst hl; exact (self_listed hp hnp).elim
        · have hnp' := tmono p dp hp hnp
          have hnk : noW vp ds k p := by
            intro q dq h1 h2 hq
            rcases hk' with ⟨rfl, _⟩ | ⟨rfl, hkj⟩
            · exact hw q dq h1 h2 hq
            · rcases Nat.lt_trichotomy q j with hqj | hqj | hqj
              · exact hnw q dq h1 hqj hq
              · subst hqj; rw [hq] at hd; simp only [Option.some.injEq] at hd; subst hd; rw [hcl]; simp
              · exact hw q dq (by omega) h2 hq
          have hvp := di.vt p dp v' hp hnp' hfp hHp hnk
          obtain ⟨bs, hbs⟩ := H_ext tr p (show j + 1 ≤ p by omega) (by have := (List.getElem?_eq_some_iff.1 hp).1; omega) fun q dq h1 h2 hq => by
            refine hnw2 q dq (by omega) (.inr fun q' dq' h1' h2' hq' => hnk q' dq' h1' (by omega) hq') hq
          have hne : (H p).length ≠ (H j).length := by rw [hbs, hH]; simp
          exact ⟨by rw [g5 _ hne]; exact hvp.1, hvp.2⟩
      · simp only [Prod.mk.injEq] at hpass
        rw [hX] at hpass; simp [passed] at hpass
    · -- it is passed over
      refine it_ok tied ih pos.chk di.fr di.hi (hstep (hany (H k))) fun rv w' G' r1 r2 r3 => ?_
      have st' := di.st.trans r3
      have same := vt_same (L' := L.setIfInBounds d.ix true) spec tr shut di r2 r3.mono tmono
      rcases Nat.lt_or_ge j k with hjk | hjk
      · exact done (k' := k) di.kN (by rw [hcl]; rfl) hjk (.inl rfl) r3.le (by rw [hX]; exact r1) r2 st' same
      · obtain ⟨bs, hbs⟩ := H_ext tr j hjk (by omega) hnw
        have hHj : H (j + 1) = H k ++ bs := by rw [hH, hbs]
        have hi' : HInv T G' lo (H (j + 1)) w' := by rw [hHj]; exact virt r2 bs
        have st2 : Stp lo G0 h0 w0 G' (H (j + 1)) w' := by rw [hHj]; exact st'.trans (virt_stp r2 bs)
        refine done (k' := j + 1) (by omega) (by rw [hcl]; rfl) (Nat.lt_succ_self _) (.inr ⟨rfl, hjk⟩) r3.le (by rw [hX]; exact r1) hi' st2 fun p dp v' hp hnp hfp hHp hw => ?_
        rcases Nat.lt_trichotomy p j with hl | hl | hl
        · exact same p dp v' hp hnp hfp hHp fun q dq h1 h2 hq => hnw q dq h1 (by omega) hq
        · subst hl; exact (self_listed hp hnp).elim
        · exact far hi' st2 p dp (by omega) hp hw
end step

end
end Go.VE
