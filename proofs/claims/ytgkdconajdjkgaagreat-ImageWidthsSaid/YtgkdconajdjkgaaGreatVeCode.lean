/- THE EVALUATOR IS SOUND: what it answers, the program's code answers. -/
import Derived.Test.YtgkdconajdjkgaaGreatVeDraw4
namespace Go.VE
set_option linter.unusedVariables false
set_option linter.unnecessarySimpa false
set_option linter.unusedSimpArgs false
open Classical

def toExit : Ex → Exit
  | .nrm => .normal
  | .brk i => .exit i
  | .ret => .ret

def Post (T : Tbl) (lo : Nat) (G0 : Gh) (h0 : Heap) (w0 : World) (nt : Nat) (r : Ex × Fr × Heap) (e : Exit) (a : Act) (w : World) : Prop :=
  e = toExit r.1 ∧ St T lo G0 h0 w0 nt r.2.1 r.2.2 a w

section
variable {P : Program} {T : Tbl} {vp : VP} {G : Gh} {w : World} {lo : Nat} {h : Heap} {G0 : Gh} {w0 : World} {h0 : Heap}

def SoundLoop (P : Program) (T : Tbl) (vp : VP) (n : Nat) : Prop :=
  ∀ lo ks body c nt fr h r, (orcN vp n).loop lo ks body fr h = some r → chkCode P T vp nt c body = true → ∀ G0 h0 w0 a w, St T lo G0 h0 w0 nt fr h a w → Code.rounds P c (Post T lo G0 h0 w0 nt r) n a w

theorem rounds_mono {c : Code} {Q Q' : Exit → Act → World → Prop} (hQ : ∀ e a w, Q e a w → Q' e a w) : ∀ (n : Nat) (a : Act) (w : World), Code.rounds P c Q n a w → Code.rounds P c Q' n a w
  | 0, _, _, hh => hh
  | n + 1, a, w, hh => wp_mono hh fun e a w q => by
    cases e with
    | normal => exact rounds_mono hQ n a w q
    | _ => exact hQ _ a w q

theorem lk_below {n : Nat} : ∀ {fr : Fr}, belowL n (fr.map Prod.snd) = true → ∀ t, belowB n (lk fr t) = true
  | [], _, t => rfl
  | (k, v) :: fr, hh, t => by
    simp only [List.map_cons, belowL, Bool.and_eq_true] at hh
    simp only [lk]
    split
    · exact hh.1
    · exact lk_below hh.2 t

/-- At a loop's head: what the round made and nobody holds is let go. -/
theorem gc_loop (hi : HInv T G lo h w) {fr1 : Fr} {h1 : Heap} {G1 : Gh} {w1 : World} {tmps : Array Value} (hf : FInv T G1 fr1 tmps) (hi1 : HInv T G1 lo h1 w1) (st : Stp lo G h w G1 h1 w1) :
    ∃ G2, FInv T G2 fr1 tmps ∧ HInv T G2 lo (gcLoop vp h fr1 h1) w1 ∧ Stp lo G h w G2 (gcLoop vp h fr1 h1) w1 := by
  unfold gcLoop
  split
  · rename_i hc0
    simp only [Bool.and_eq_true] at hc0
    have hc : belowL h.length (fr1.map Prod.snd) = true ∧ okOld h h1 := ⟨hc0.1.2, okOldB_ok hc0.2⟩
    refine ⟨G1.drop lo h.length h1 w1 G1.Gb, fun t => ?_, drop_blocks hi1 st.mono.1 hi.llo (old_below hi st hc.2), drop_stp hi st hi1 st.mono.1⟩
    refine R.under (n := h.length) (fun b off v e => drop_gp hi1 e) (fun _ _ _ e => e) (fun B ep g hB e => ?_) (fun B r hB e => ?_) (Nat.le_refl _) (hf t) (lk_below hc.1 t)
    · show (if B < h.length then G1.sg B ep else none) = some g
      rw [if_pos hB]; exact e
    · show (if B < h.length then G1.io B else none) = some r
      rw [if_pos hB]; exact e
  · exact ⟨G1, hf, hi1, st⟩

theorem St.keep {nt : Nat} {fr : Fr} {a : Act} (hs : St T lo G0 h0 w0 nt fr h a w) (ks : List Nat) : St T lo G0 h0 w0 nt (VE.keep ks fr) h a w := by
  obtain ⟨G, s1, s2, s3, s4, s5⟩ := hs
  exact ⟨G, s1.keep ks, s2, s3, s4, s5⟩

/-- Code. -/
theorem exec_ok (tied : Tied P T vp) {n : Nat} (ih : SoundCall P T vp n) (il : SoundLoop P T vp n) : ∀ (c : Code) (v : VCode) {nt : Nat} {fr : Fr} {h : Heap} {r : Ex × Fr × Heap} {a : Act} {w : World} {G0 : Gh} {h0 : Heap} {w0 : World},
    chkCode P T vp nt c v = true → exec (orcN vp n) vp lo v fr h = some r → St T lo G0 h0 w0 nt fr h a w → c.wp P (Post T lo G0 h0 w0 nt r) a w := by
  intro c v
  induction v generalizing c with
  | skip =>
    intro nt fr h r a w G0 h0 w0 hc e hs
    cases c <;> simp [chkCode] at hc
    simp only [exec, Option.some.injEq] at e
    subst e
    exact wp_skip ⟨rfl, hs⟩
  | reg its ks =>
    intro nt fr h r a w G0 h0 w0 hc e hs
    cases c with
    | region id ops draw =>
      cases draw with
      | false =>
        simp only [exec, Option.map_eq_some_iff] at e
        obtain ⟨x, hx, rfl⟩ := e
        have hc : chkIts P T ops nt ops.toList its = true := hc
        exact region_ok tied ih hc hx hs fun a w s => ⟨rfl, s.keep ks⟩
      | true => exact absurd hc (by simp [chkCode])
    | _ => exact absurd hc (by simp [chkCode])
  | drw ds ks =>
    intro nt fr h r a w G0 h0 w0 hc e hs
    cases c with
    | region id ops draw =>
      cases draw with
      | true =>
        simp only [exec, Option.map_eq_some_iff] at e
        obtain ⟨x, hx, rfl⟩ := e
        have hc : drawOK P T vp ops nt ds = true := hc
        exact draw_ok tied ih hc hx hs fun a w s => ⟨rfl, s.keep ks⟩
      | false => exact absurd hc (by simp [chkCode])
    | _ => exact absurd hc (by simp [chkCode])
  | seq v1 v2 ih1 ih2 =>
    intro nt fr h r a w G0 h0 w0 hc e hs
    cases c <;> simp only [chkCode, Bool.false_eq_true] at hc
    rename_i c1 c2
    simp only [Bool.and_eq_true] at hc
    simp only [exec, Option.bind_eq_some_iff] at e
    obtain ⟨x, hx, e⟩ := e
    refine wp_seq (wp_mono (ih1 c1 hc.1 hx hs) fun ex a' w' ⟨q1, q2⟩ => ?_)
    obtain ⟨ex1, fr1, h1⟩ := x
    subst q1
    cases ex1 with
    | nrm => exact ih2 c2 hc.2 e q2
    | brk i => simp only [Option.some.injEq] at e; subst e; exact ⟨rfl, q2⟩
    | ret => simp only [Option.some.injEq] at e; subst e; exact ⟨rfl, q2⟩
  | cond y v1 v2 ih1 ih2 =>
    intro nt fr h r a w G0 h0 w0 hc e hs
    cases c <;> simp only [chkCode, Bool.false_eq_true] at hc
    rename_i x c1 c2
    simp only [Bool.and_eq_true] at hc
    simp only [exec] at e
    split at e
    · rename_i b hb
      obtain ⟨G, s1, s2, s3, s4, s5⟩ := id hs
      have hR := chkOpd_R s1 hc.1.1
      rw [hb] at hR
      have hv := hR.bool_inv
      split at e
      · rename_i hbt
        exact wp_cond hv (by rw [if_pos hbt]; exact ih1 c1 hc.1.2 e hs)
      · rename_i hbt
        exact wp_cond hv (by rw [if_neg hbt]; exact ih2 c2 hc.2 e hs)
    · simp at e
  | blk id v1 ih1 =>
    intro nt fr h r a w G0 h0 w0 hc e hs
    cases c <;> simp only [chkCode, Bool.false_eq_true] at hc
    rename_i id' c1
    simp only [Bool.and_eq_true, beq_iff_eq] at hc
    obtain ⟨rfl, hc⟩ := hc
    simp only [exec, Option.map_eq_some_iff] at e
    obtain ⟨x, hx, e⟩ := e
    refine wp_block (wp_mono (ih1 c1 hc hx hs) fun ex a' w' ⟨q1, q2⟩ => ?_)
    obtain ⟨ex1, fr1, h1⟩ := x
    subst q1
    cases ex1 with
    | nrm => simp only at e; subst e; exact ⟨rfl, q2⟩
    | brk i =>
      simp only at e
      simp only [toExit, Exit.inBlock]
      split
      · rename_i hid
        rw [if_pos hid] at e; subst e; exact ⟨rfl, q2⟩
      · rename_i hid
        rw [if_neg hid] at e; subst e; exact ⟨rfl, q2⟩
    | ret => simp only at e; subst e; exact ⟨rfl, q2⟩
  | loop ks v1 ih1 =>
    intro nt fr h r a w G0 h0 w0 hc e hs
    cases c <;> simp only [chkCode, Bool.false_eq_true] at hc
    rename_i c1
    simp only [exec] at e
    exact wp_loop_rounds n (il _ _ _ _ _ _ _ _ e hc _ _ _ _ _ (hs.keep ks))
  | exit id =>
    intro nt fr h r a w G0 h0 w0 hc e hs
    cases c <;> simp [chkCode] at hc
    subst hc
    simp only [exec, Option.some.injEq] at e
    subst e
    exact wp_exit ⟨rfl, hs⟩
  | ret =>
    intro nt fr h r a w G0 h0 w0 hc e hs
    cases c <;> simp [chkCode] at hc
    simp only [exec, Option.some.injEq] at e
    subst e
    exact wp_ret ⟨rfl, hs⟩

theorem lk_parms : ∀ (vs : List V) (n t : Nat), lk (parms n vs) t = if n ≤ t then (vs[t - n]?).getD .undef else .undef
  | [], n, t => by simp [parms, lk]
  | v :: vs, n, t => by
    simp only [parms, lk]
    split
    · rename_i hh; subst hh; simp
    · rename_i hh
      rw [lk_parms vs (n + 1) t]
      by_cases h1 : n + 1 ≤ t
      · rw [if_pos h1, if_pos (by omega)]
        have : t - n = (t - (n + 1)) + 1 := by omega
        rw [this]; simp
      · rw [if_neg h1, if_neg (by omega)]

theorem parms_R {vs : List V} {as : Array Value} (hR : RA T G vs as) (k : Nat) : FInv T G (parms 0 vs) (as ++ Array.replicate k undef) := by
  intro t
  rw [lk_parms, if_pos (Nat.zero_le _), Nat.sub_zero]
  cases hv : vs[t]? with
  | none => exact .undef _
  | some v =>
    have hlt : t < as.size := by rw [← hR.1]; exact (List.getElem?_eq_some_iff.1 hv).1
    have hg : (as ++ Array.replicate k undef).getD t undef = as[t] := by
      rw [Array.getD_eq_getD_getElem?, Array.getElem?_append_left hlt]; simp [hlt]
    rw [hg]
    exact hR.2 t v _ hv (by simp [hlt])

def resOne (tmps : Array Value) : ResultVar → Sem Value
  | .tmp t => pure (tmps.getD t undef)
  | .cell a t => do loadVar t (← asAddr (tmps.getD a undef))

theorem res_ok (hi : HInv T G lo h w) {fr : Fr} {tmps : Array Value} (hf : FInv T G fr tmps) : ∀ (l : List ResultVar) (r : List VRes) (vs : List V), chkRes P l r = true → resL fr h r = some vs →
    ∃ rs : List Value, (l.mapM (resOne tmps)).run P w = .ok rs w ∧ vs.length = rs.length ∧ ∀ (i : Nat) (v : V) (rv : Value), vs[i]? = some v → rs[i]? = some rv → R T G v rv
  | [], [], vs, hc, e => by
    simp [resL] at e; subst e
    exact ⟨[], by simp, rfl, by simp⟩
  | [], _ :: _, _, hc, _ => by simp [chkRes] at hc
  | .tmp _ :: _, [], _, hc, _ => by simp [chkRes] at hc
  | .cell _ _ :: _, [], _, hc, _ => by simp [chkRes] at hc
  | .tmp t :: l, .tmp t' :: r, vs, hc, e => by
    simp only [chkRes, Bool.and_eq_true, beq_iff_eq] at hc
    obtain ⟨rfl, hc⟩ := hc
    simp only [resL, resV1, Option.bind_some, Option.map_eq_some_iff] at e
    obtain ⟨vs', e, rfl⟩ := e
    obtain ⟨rs, r1, r2, r3⟩ := res_ok hi hf l r vs' hc e
    refine ⟨tmps.getD t undef :: rs, by simp only [List.mapM_cons, Sem.run_bind, resOne, Sem.run_pure, Result.andThen_ok, r1], by simp [r2], fun i v rv e1 e2 => ?_⟩
    cases i with
    | zero => simp at e1 e2; subst e1; rw [← e2]; have := hf t; simpa using this
    | succ i => exact r3 i v rv (by simpa using e1) (by simpa using e2)
  | .tmp t :: l, .cell _ _ _ :: r, vs, hc, e => by simp [chkRes] at hc
  | .cell _ _ :: l, .tmp _ :: r, vs, hc, e => by simp [chkRes] at hc
  | .cell x t :: l, .cell x' agg n :: r, vs, hc, e => by
    simp only [chkRes, Bool.and_eq_true, beq_iff_eq] at hc
    obtain ⟨⟨⟨rfl, ha⟩, hs⟩, hc⟩ := hc
    simp only [resL, resV1, Option.bind_eq_some_iff, Option.map_eq_some_iff] at e
    obtain ⟨v, hv, vs', e, rfl⟩ := e
    obtain ⟨rs, r1, r2, r3⟩ := res_ok hi hf l r vs' hc e
    obtain ⟨rv, ad, k1, k2, k3⟩ := loadV_run (P := P) hi ha (fun hagg => by rw [hagg] at hs; simpa using hs) hv (hf x)
    refine ⟨rv :: rs, ?_, by simp [r2], fun i v' rv' e1 e2 => ?_⟩
    · simp only [List.mapM_cons, Sem.run_bind, resOne, k1, asAddr, Sem.run_pure, Result.andThen_ok, k2, r1]
    · cases i with
      | zero => simp at e1 e2; subst e1; subst e2; exact k3
      | succ i => exact r3 i v' rv' (by simpa using e1) (by simpa using e2)

theorem results_ok (hi : HInv T G lo h w) {fr : Fr} {tmps : Array Value} (hf : FInv T G fr tmps) {fn : Func} {r : List VRes} {v : V} (hc : chkRes P fn.results.toList r = true) (e : resV fr h r = some v) :
    ∃ rv, (results fn tmps).run P w = .ok rv w ∧ R T G v rv := by
  simp only [resV, Option.map_eq_some_iff] at e
  obtain ⟨vs, hv, e⟩ := e
  obtain ⟨rs, r1, r2, r3⟩ := res_ok hi hf _ _ _ hc hv
  have hm : (fn.results.mapM (resOne tmps)).run P w = .ok rs.toArray w := by
    rw [Array.mapM_eq_mapM_toList]
    simp only [Sem.run_map, r1, Result.andThen_ok]
  have hres : results fn tmps = (do let vs ← fn.results.mapM (resOne tmps); pure (if h : vs.size = 1 then vs[0] else .tuple vs)) := by
    unfold results
    congr
  have hm2 : (results fn tmps).run P w = .ok (if h : rs.toArray.size = 1 then rs.toArray[0] else .tuple rs.toArray) w := by
    rw [hres]
    simp only [Sem.run_bind, hm, Result.andThen_ok, Sem.run_pure]
  refine ⟨_, hm2, ?_⟩
  cases vs with
  | nil =>
    cases rs with
    | nil => subst e; exact .tup [] #[] rfl (by simp)
    | cons x rs => simp at r2
  | cons y vs =>
    cases rs with
    | nil => simp at r2
    | cons x rs =>
      cases vs with
      | nil =>
        cases rs with
        | nil => subst e; exact r3 0 _ _ rfl rfl
        | cons x' rs => simp at r2
      | cons y' vs =>
        subst e
        rw [dif_neg (by cases rs with | nil => simp at r2 | cons x' rs => simp)]
        exact .tup (y :: y' :: vs) (x :: rs).toArray (by simpa using r2) (fun i v rv e1 e2 => r3 i v rv e1 (by simpa using e2))

theorem sound (tied : Tied P T vp) : ∀ n, SoundCall P T vp n ∧ SoundLoop P T vp n
  | 0 => ⟨fun f vf lo vs h r h' _ _ e => absurd e (by simp [orcN]), fun lo ks body c nt fr h r e => absurd e (by simp [orcN])⟩
  | n + 1 => by
    obtain ⟨ih, il⟩ := sound tied n
    refine ⟨fun f vf lo vs h r h' hv hx e G w fid as hf hi hR => ?_, fun lo ks body c nt fr h r e hc G0 h0 w0 a w hs => ?_⟩
    · obtain ⟨fid', fn, hf', hfn, hck⟩ := tied.fn f vf hv hx
      rw [hf] at hf'; simp only [Option.some.injEq] at hf'; subst hf'
      obtain ⟨c, hb, hnm, hcode, hres⟩ := chkFunc_body hck
      have e' : stepCall (orcN vp n) vp f lo vs h = some (r, h') := e
      simp only [stepCall, hv, Option.bind_some, Option.bind_eq_some_iff] at e'
      obtain ⟨x, hxx, e'⟩ := e'
      refine calls_of_wp hfn hb ?_
      have hs : St T lo G h w fn.ntmps (parms 0 vs) h { tmps := as ++ Array.replicate (fn.ntmps - as.size) undef, defers := [] } w :=
        ⟨G, parms_R hR _, hi, .refl _ _ _ _, rfl, by simp; omega⟩
      refine wp_mono (exec_ok tied ih il c vf.body hcode hxx hs) fun ex a' w' ⟨q1, q2⟩ => ?_
      obtain ⟨ex1, fr1, h1⟩ := x
      obtain ⟨G1, s1, s2, s3, s4, s5⟩ := q2
      have fin : (resV fr1 h1 vf.results).map (fun v => (v, h1)) = some (r, h') → a'.defers = [] ∧ ∃ v, (results fn a'.tmps).run P w' = .ok v w' ∧ Back T lo G h w r h' (.returned v) w' := by
        intro e'
        simp only [Option.map_eq_some_iff, Prod.mk.injEq] at e'
        obtain ⟨v, hv, rfl, rfl⟩ := e'
        obtain ⟨rv, k1, k2⟩ := results_ok s2 s1 hres hv
        exact ⟨s4, rv, k1, rv, G1, rfl, k2, s2, s3⟩
      subst q1
      cases ex1 with
      | nrm => exact fin e'
      | brk i => simp at e'
      | ret => exact fin e'
    · have e' : stepLoop (orcN vp n) vp lo ks body fr h = some r := e
      simp only [stepLoop, Option.bind_eq_some_iff] at e'
      obtain ⟨x, hxx, e'⟩ := e'
      obtain ⟨G, s1, s2, s3, s4, s5⟩ := hs
      rw [rounds_succ]
      refine wp_mono (exec_ok tied ih il c body hc hxx (G0 := G) (h0 := h) (w0 := w) ⟨G, s1, s2, .refl _ _ _ _, s4, s5⟩) fun ex a' w' ⟨q1, q2⟩ => ?_
      obtain ⟨ex1, fr1, h1⟩ := x
      obtain ⟨G1, t1, t2, t3, t4, t5⟩ := q2
      subst q1
      cases ex1 with
      | nrm =>
        simp only at e'
        obtain ⟨G2, u1, u2, u3⟩ := gc_loop (vp := vp) s2 (t1.keep ks) t2 t3
        exact il _ _ _ _ _ _ _ _ e' hc _ _ _ _ _ ⟨G2, u1, u2, s3.trans u3, t4, t5⟩
      | brk i => simp only [Option.some.injEq] at e'; subst e'; exact ⟨rfl, G1, t1, t2, s3.trans t3, t4, t5⟩
      | ret => simp only [Option.some.injEq] at e'; subst e'; exact ⟨rfl, G1, t1, t2, s3.trans t3, t4, t5⟩

/-- A call that the evaluator answers, the program answers. -/
theorem callF_ok (tied : Tied P T vp) {f : Nat} {vf : VFunc} (hv : vp.fn f = some vf) (hx : vf.ext = none) {vs : List V} {r : V} {h' : Heap} (e : callF vp f lo vs h = some (r, h')) (hi : HInv T G lo h w) {fid : FuncId} (hf : T.fid f = some fid)
    {as : Array Value} (hR : RA T G vs as) : Calls P fid as w (Back T lo G h w r h') := by
  obtain ⟨n, hn⟩ := orc_call_some e
  exact (sound tied n).1 f vf lo vs h r h' hv hx hn G w fid as hf hi hR

end
end Go.VE
