/- Regions that run in the order of the text. -/
import Derived.Test.YtgkdconajdjkgaaGreatVeCall
import Derived.LoopN
namespace Go.VE
set_option linter.unusedVariables false
set_option linter.unnecessarySimpa false
set_option linter.unusedSimpArgs false
open Classical

theorem runOps_cons (O : Orc) (vp : VP) (lo : Nat) (it : VIt) (r : List VIt) (fr : Fr) (h : Heap) :
    runOps O vp lo (it :: r) fr h = (stepIt O vp lo it fr h).bind fun x => runOps O vp lo r (put fr it.dst x.1) x.2 := rfl

/-- The state of a frame and of memory, told from a state before. -/
def St (T : Tbl) (lo : Nat) (G0 : Gh) (h0 : Heap) (w0 : World) (n : Nat) (fr : Fr) (h : Heap) (a : Act) (w : World) : Prop :=
  ∃ G, FInv T G fr a.tmps ∧ HInv T G lo h w ∧ Stp lo G0 h0 w0 G h w ∧ a.defers = [] ∧ n ≤ a.tmps.size

section
variable {P : Program} {T : Tbl} {vp : VP} {G : Gh} {w : World} {lo : Nat} {h : Heap} {G0 : Gh} {w0 : World} {h0 : Heap}

theorem FInv.aput {fr : Fr} {a : Act} (hf : FInv T G fr a.tmps) {v : V} {rv : Value} (hv : R T G v rv) (dst : Option Nat) (hd : ∀ d, dst = some d → d < a.tmps.size) :
    FInv T G (VE.put fr dst v) (a.put dst rv).tmps := by
  have := FInv.put hf hv dst hd
  cases dst <;> exact this

theorem aput_size (a : Act) (dst : Option Nat) (rv : Value) : (a.put dst rv).tmps.size = a.tmps.size ∧ (a.put dst rv).defers = a.defers := by
  cases dst <;> simp [Act.put]

/-- Whether an item is wanted. -/
theorem wanted_none {o : Oper} (hg : o.guard = none) (y : Nat → Option Bool) : Region.wanted o y = true := by simp [Region.wanted, hg]

theorem wanted_bool {ops : Array Oper} {o : Oper} {j : Nat} {want : Bool} (hg : o.guard = some (j, want)) {t : Nat} (hd : (ops[j]?).bind (·.dst) = some t) {fr : Fr} {a : Act} (hf : FInv T G fr a.tmps) {b : Bool} (hb : lk fr t = .bool b) :
    Region.wanted o (yielded ops a.tmps) = decide (b = want) := by
  have := hf t
  rw [hb] at this
  have hv := this.bool_inv
  have hv' : a.tmps[t]? = some (.bool b) := by
    rw [Array.getD_eq_getD_getElem?] at hv
    cases hx : a.tmps[t]? with
    | none => rw [hx] at hv; simp [undef] at hv
    | some y => rw [hx] at hv; simpa using hv
  simp only [Region.wanted, hg, yielded, hd, Option.bind_some, hv']
  cases b <;> cases want <;> rfl

theorem wanted_passed {ops : Array Oper} {o : Oper} {j : Nat} {want : Bool} (hg : o.guard = some (j, want)) {t : Nat} (hd : (ops[j]?).bind (·.dst) = some t) {fr : Fr} {a : Act} (hf : FInv T G fr a.tmps) (hb : lk fr t = .tup []) :
    Region.wanted o (yielded ops a.tmps) = false := by
  have := hf t
  rw [hb] at this
  obtain ⟨c, hv, h1, _⟩ := this.tup_inv
  rw [Array.getD_eq_getD_getElem?] at hv
  cases hx : a.tmps[t]? with
  | none => simp [Region.wanted, hg, yielded, hd, hx]
  | some y =>
    rw [hx] at hv
    have : y = .tuple c := by simpa using hv
    subst this
    simp [Region.wanted, hg, yielded, hd, hx]

theorem chkIt_split {ops : Array Oper} {n : Nat} {o : Oper} {it : VIt} (hc : chkIt P T ops n o it = true) : o.dst = it.dst ∧ (∀ d, o.dst = some d → d < n) ∧ chkOp P T o.op it.op = true ∧
    ((o.guard = none ∧ it.g = none) ∨ ∃ j want t, o.guard = some (j, want) ∧ it.g = some (t, want) ∧ (ops[j]?).bind (·.dst) = some t) := by
  unfold chkIt at hc
  simp only [Bool.and_eq_true, beq_iff_eq] at hc
  obtain ⟨⟨⟨h1, h2⟩, h3⟩, h4⟩ := hc
  refine ⟨h1, fun d hd => ?_, h4, ?_⟩
  · rw [hd] at h2; simpa using h2
  · split at h3
    · rename_i e1 e2; exact .inl ⟨e1, e2⟩
    · rename_i j w0 t w' e1 e2
      simp only [Bool.and_eq_true, beq_iff_eq] at h3
      obtain ⟨rfl, h3⟩ := h3
      exact .inr ⟨j, w0, t, e1, e2, h3⟩
    · simp at h3

/-- One operation of a region. -/
theorem it_ok (tied : Tied P T vp) {n : Nat} (ih : SoundCall P T vp n) {ops : Array Oper} {nt : Nat} {o : Oper} {it : VIt} (hc : chkIt P T ops nt o it = true) {fr : Fr} {a : Act} (hf : FInv T G fr a.tmps) (hi : HInv T G lo h w)
    {x : V} {h' : Heap} (e : stepIt (orcN vp n) vp lo it fr h = some (x, h')) {next : Act → World → Prop} {Q : Exit → Act → World → Prop}
    (hn : ∀ rv w' G', R T G' x rv → HInv T G' lo h' w' → Stp lo G h w G' h' w' → next (a.put o.dst rv) w') :
    if Region.wanted o (yielded ops a.tmps) then o.wp P a w next Q ∨ (o.asks P a w ∧ LetsOut Q) else next (a.put o.dst undef) w := by
  obtain ⟨h1, h2, h3, h4⟩ := chkIt_split hc
  have run : evalOp (orcN vp n) vp lo fr h it.op = some (x, h') → o.wp P a w next Q := fun e => by
    obtain ⟨dst, op, ty, pos, after, gd⟩ := o
    exact (op_ok tied ih h3 hf hi e dst ty pos after gd).wp hn
  have pass : some (passed, h) = some (x, h') → next (a.put o.dst undef) w := fun e => by
    simp only [Option.some.injEq, Prod.mk.injEq] at e
    obtain ⟨rfl, rfl⟩ := e
    exact hn _ w G (.tup [] #[] rfl (by simp)) hi (.refl _ _ _ _)
  unfold stepIt at e
  rcases h4 with ⟨g1, g2⟩ | ⟨j, want, t, g1, g2, g3⟩
  · rw [wanted_none g1]
    simp only [g2] at e
    exact .inl (run e)
  · simp only [g2] at e
    split at e
    · rename_i b hb
      rw [wanted_bool g1 g3 hf hb]
      by_cases hw : b = want
      · simp only [hw, decide_true, if_true] at e ⊢
        exact .inl (run e)
      · simp only [hw, decide_false, if_false, Bool.false_eq_true] at e ⊢
        exact pass e
    · rename_i hb
      rw [wanted_passed g1 g3 hf hb]
      exact pass e
    · simp at e

theorem list_ok (tied : Tied P T vp) {n : Nat} (ih : SoundCall P T vp n) {ops : Array Oper} {nt : Nat} {Q : Exit → Act → World → Prop} {fr' : Fr} {h' : Heap} (hQ : ∀ a w, St T lo G0 h0 w0 nt fr' h' a w → Q .normal a w) :
    ∀ (l : List Oper) (its : List VIt) (fr : Fr) (h : Heap) (a : Act) (w : World), chkIts P T ops nt l its = true → runOps (orcN vp n) vp lo its fr h = some (fr', h') → St T lo G0 h0 w0 nt fr h a w → wpList P ops Q l a w
  | [], [], fr, h, a, w, hc, e, hs => by
    simp only [runOps, Option.some.injEq, Prod.mk.injEq] at e
    obtain ⟨rfl, rfl⟩ := e
    exact hQ a w hs
  | [], _ :: _, _, _, _, _, hc, _, _ => by simp [chkIts] at hc
  | _ :: _, [], _, _, _, _, hc, _, _ => by simp [chkIts] at hc
  | o :: l, it :: its, fr, h, a, w, hc, e, hs => by
    simp only [chkIts, Bool.and_eq_true] at hc
    obtain ⟨hc1, hc2⟩ := hc
    rw [runOps_cons, Option.bind_eq_some_iff] at e
    obtain ⟨⟨x, h1⟩, e1, e2⟩ := e
    obtain ⟨G, s1, s2, s3, s4, s5⟩ := hs
    obtain ⟨d1, d2, _, _⟩ := chkIt_split hc1
    simp only [wpList]
    refine it_ok tied ih hc1 s1 s2 e1 fun rv w' G' r1 r2 r3 => ?_
    refine list_ok tied ih hQ l its _ h1 _ w' hc2 e2 ⟨G', ?_, r2, s3.trans r3, ?_, ?_⟩
    · rw [← d1]
      exact (s1.mono r3.le).aput r1 _ fun d hd => Nat.lt_of_lt_of_le (d2 d hd) s5
    · rw [(aput_size _ _ _).2]; exact s4
    · rw [(aput_size _ _ _).1]; exact s5

theorem region_ok (tied : Tied P T vp) {n : Nat} (ih : SoundCall P T vp n) {id : Nat} {ops : Array Oper} {nt : Nat} {its : List VIt} (hc : chkIts P T ops nt ops.toList its = true) {fr fr' : Fr} {h' : Heap} {a : Act}
    (e : runOps (orcN vp n) vp lo its fr h = some (fr', h')) (hs : St T lo G0 h0 w0 nt fr h a w) {Q : Exit → Act → World → Prop} (hQ : ∀ a w, St T lo G0 h0 w0 nt fr' h' a w → Q .normal a w) : (Code.region id ops false).wp P Q a w := by
  refine wp_region ?_
  have : List.range ops.size = List.range' 0 ops.toList.length := by rw [List.range_eq_range']; simp
  rw [this, wpOps_eq_wpList ops.toList 0 (fun j => by simp)]
  exact list_ok tied ih hQ _ _ _ _ _ _ hc e hs

end
end Go.VE
