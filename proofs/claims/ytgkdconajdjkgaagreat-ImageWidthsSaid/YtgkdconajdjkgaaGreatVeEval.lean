/- The V-evaluator: what a program's code answers on abstract values. No memory addresses, no schedule. -/
import Derived.Test.YtgkdconajdjkgaaGreatVeCore
namespace Go.VE
set_option linter.unusedVariables false

def optL (f : V → Option V) : List V → Option (List V)
  | [] => some []
  | v :: l => (f v).bind fun v => (optL f l).map (v :: ·)

def loadV (h : Heap) (agg : Bool) (n : Nat) (a : V) : Option V :=
  match a with
  | .eptr e o _ => ldc e agg n o
  | .ptr B ep i o =>
    match h[B]? with
    | some (.arr es) => if es.length = ep then (es[i]?).bind fun e => ldc e agg n o else none
    | _ => none
  | _ => none

/-- The elements that a slice of the heap shows. -/
def seen (h : Heap) (B ep off len : Nat) : Option (List V) :=
  match h[B]? with
  | some (.arr es) => if es.length = ep ∧ off + len ≤ ep then some ((es.drop off).take len) else none
  | _ => none

mutual
/-- A value that is given away: slices of the heap become immutable, their blocks are dead from then on. -/
def fzV (lo : Nat) (h : Heap) : V → Option (V × Heap)
  | .agg cs => if closedL cs then some (.agg cs, h) else (fzL lo h cs).map fun r => (.agg r.1, r.2)
  | .gsl B ep z off len =>
    if lo ≤ B then
      (seen h B ep off len).bind fun es => if closedL es then some (.sl z es .perm, h.set B .dead) else none
    else none
  | v => if closedB v then some (v, h) else none
def fzL (lo : Nat) (h : Heap) : List V → Option (List V × Heap)
  | [] => some ([], h)
  | v :: l => (fzV lo h v).bind fun r => (fzL lo r.2 l).map fun s => (r.1 :: s.1, s.2)
end

def storeV (lo : Nat) (h : Heap) (n : Nat) (a x : V) : Option Heap :=
  match a with
  | .ptr B ep i o =>
    match h[B]? with
    | some (.arr es) =>
      if lo ≤ B ∧ es.length = ep then (es[i]?).bind fun e => (stc e n o x).map fun e => h.set B (.arr (es.set i e)) else none
    | _ => none
  | _ => none

def listOf (h : Heap) (z : Nat) (x : V) : Option (List V) :=
  match x with
  | .sl z' es _ => if z' = z then some es else none
  | .gsl B ep z' off len => if z' = z then seen h B ep off len else none
  | .str s => if z = 1 then some (s.map byteV) else none
  | _ => none

def roomB : Nat := 140737488355328

def appV (lo : Nat) (h : Heap) (z bytes : Nat) (s : V) (ns : List V) : Option (V × Heap) :=
  if ns.isEmpty then (match s with | .sl .. | .gsl .. => some (s, h) | _ => none)
  else match s with
    | .sl z' es t =>
      if clipB t = true ∧ z' = z ∧ (es.length + ns.length) * bytes ≤ roomB then
        some (.gsl h.length (es.length + ns.length) z 0 (es.length + ns.length), h ++ [.arr (es ++ ns)])
      else none
    | .gsl B ep z' off len =>
      match h[B]? with
      | some (.arr es) =>
        if z' = z ∧ off = 0 ∧ len = ep ∧ lo ≤ B ∧ es.length = ep ∧ (ep + ns.length) * bytes ≤ roomB then
          some (.gsl B (ep + ns.length) z 0 (ep + ns.length), h.set B (.arr (es ++ ns)))
        else none
      | _ => none
    | _ => none

def makeV (h : Heap) (z : V) (bytes : Nat) (len cap : V) : Option (V × Heap) :=
  match len, cap with
  | .int .i64 l, .int .i64 c =>
    if 0 ≤ l ∧ l ≤ c ∧ c * bytes ≤ roomB ∧ c ≤ roomB then
      some (.gsl h.length l.toNat z.cells.length 0 l.toNat, h ++ [.arr (List.replicate l.toNat z)])
    else none
  | _, _ => none

def decodeL (s : List UInt8) (pos : Nat) : Nat × Nat := Utf8.decode ⟨s.toArray⟩ pos

def nextV (lo : Nat) (h : Heap) (it : V) : Option (V × Heap) :=
  match it with
  | .itr B =>
    match h[B]? with
    | some (.iter s pos) =>
      if pos < s.length then
        if lo ≤ B then some (.tup [.bool true, .int .i64 pos, .int .i32 (decodeL s pos).1], h.set B (.iter s (pos + (decodeL s pos).2))) else none
      else some (.tup [.bool false], h)
    | _ => none
  | _ => none

/-- An argument, as a call sees it that writes nothing of what was there: what it refers to is borrowed. -/
def viewD (h : Heap) : Nat → V → Option V
  | 0, v => some v
  | d + 1, v =>
    if closedB v then some v else
    match v with
    | .gsl B ep z off len => (seen h B ep off len).bind fun es => (optL (viewD h d) es).map fun es => .sl z es .brw
    | .ptr B ep i o =>
      match h[B]? with
      | some (.arr es) => if es.length = ep then (es[i]?).bind fun e => (viewD h d e).map fun e => .eptr e o .brw else none
      | _ => none
    | .agg cs => (optL (viewD h d) cs).map .agg
    | .func f a b => (optL (viewD h d) a).bind fun a => (optL (viewD h d) b).map fun b => .func f a b
    | .iface t v => (viewD h d v).map (.iface t)
    | v => some v

def viewV (h : Heap) (v : V) : Option V := viewD h 4 v

/-- A result, as its caller sees it: what the call made is immutable from then on. -/
def frz (lo : Nat) (h : Heap) : Nat → V → Option V
  | 0, v => if closedB v then some v else none
  | d + 1, v =>
    if closedB v then some v else
    match v with
    | .gsl B ep z off len => if B < lo then some v else (seen h B ep off len).bind fun es => (optL (frz lo h d) es).map fun es => .sl z es .perm
    | .ptr B ep i o =>
      if B < lo then some v else
      match h[B]? with
      | some (.arr es) => if es.length = ep then (es[i]?).bind fun e => (frz lo h d e).map fun e => .eptr e o .perm else none
      | _ => none
    | .tup vs => (optL (frz lo h d) vs).map .tup
    | .agg vs => (optL (frz lo h d) vs).map .agg
    | .iface t v => (frz lo h d v).map (.iface t)
    | _ => none

/-- What was there is as it was, or refers to nothing that came later. -/
def okOld (h h1 : Heap) : Prop := ∀ B, B < h.length → h1[B]? = h[B]? ∨ ∃ b, h1[B]? = some b ∧ belowBlk h.length b = true

/-- Block by block: is it as it was, or does it refer to nothing that came later? -/
def okOldL (n : Nat) : Heap → Heap → Bool
  | [], _ => true
  | _ :: _, [] => false
  | b :: h, b' :: h1 => (beqBlk b' b || belowBlk n b') && okOldL n h h1

theorem okOldL_get {n : Nat} : ∀ {h h1 : Heap}, okOldL n h h1 = true → ∀ B, B < h.length → h1[B]? = h[B]? ∨ ∃ b, h1[B]? = some b ∧ belowBlk n b = true
  | [], _, _, B, hB => by simp at hB
  | _ :: _, [], hh, _, _ => by simp [okOldL] at hh
  | b :: h, b' :: h1, hh, B, hB => by
    simp only [okOldL, Bool.and_eq_true, Bool.or_eq_true] at hh
    cases B with
    | zero =>
      rcases hh.1 with h0 | h0
      · exact .inl (by simp [beqBlk_eq h0])
      · exact .inr ⟨b', rfl, h0⟩
    | succ B => exact okOldL_get hh.2 B (by simpa using hB)

def okOldB (h h1 : Heap) : Bool := okOldL h.length h h1

theorem okOldB_ok {h h1 : Heap} (hh : okOldB h h1 = true) : okOld h h1 := fun B hB => okOldL_get hh B hB

def gcLoop (vp : VP) (h : Heap) (fr : Fr) (h1 : Heap) : Heap :=
  if (vp.gc && belowL h.length (fr.map Prod.snd) && okOldB h h1) = true then h1.take h.length else h1

def gcRet (vp : VP) (h : Heap) (r : V) (h1 : Heap) : V × Heap :=
  if (vp.gc && okOldB h h1) = true then
    match frz h.length h1 4 r with
    | some r' => (r', h1.take h.length)
    | none => (r, h1)
  else (r, h1)

inductive Ex where
  | nrm
  | brk (id : Nat)
  | ret
  deriving DecidableEq

/-- What calls and loops answer, as far as it is known. -/
structure Orc where
  call : Nat → Nat → List V → Heap → Option (V × Heap)
  loop : Nat → List Nat → VCode → Fr → Heap → Option (Ex × Fr × Heap)

def parms : Nat → List V → Fr
  | _, [] => []
  | n, v :: l => (n, v) :: parms (n + 1) l

def put (fr : Fr) (dst : Option Nat) (v : V) : Fr :=
  match dst with
  | some d => (d, v) :: fr
  | none => fr

def doCall (O : Orc) (vp : VP) (lo : Nat) (h : Heap) (f : Nat) (args : List V) : Option (V × Heap) :=
  match vp.fn f with
  | none => none
  | some vf =>
    match vf.ext with
    | some p => ((optL (viewV h) args).bind p).map fun v => (v, h)
    | none =>
      if vf.rw then (O.call f lo args h).map fun r => gcRet vp h r.1 r.2
      else (optL (viewV h) args).bind fun as =>
        if belowL 0 as = true then (O.call f 0 as []).bind fun r => (frz 0 r.2 4 r.1).map fun v => (v, h)
        else (O.call f h.length as h).bind fun r => (frz h.length r.2 4 r.1).map fun v => (v, h)

def isRO (vp : VP) (f : Nat) : Bool :=
  match vp.fn f with
  | some vf => !vf.rw || vf.ext.isSome
  | none => false

def evalOp (O : Orc) (vp : VP) (lo : Nat) (fr : Fr) (h : Heap) (op : VOp) : Option (V × Heap) :=
  match op with
  | .alloc z => some (.ptr h.length 1 0 0, h ++ [.arr [z]])
  | .box x => if okV (opd fr x) then some (.ptr h.length 1 0 0, h ++ [.arr [opd fr x]]) else none
  | .load agg n a => (loadV h agg n (opd fr a)).map fun v => (v, h)
  | .store n fz a x =>
    if fz then (fzV lo h (opd fr x)).bind fun r => (storeV lo r.2 n (opd fr a) r.1).map fun h => (.tup [], h)
    else (storeV lo h n (opd fr a) (opd fr x)).map fun h => (.tup [], h)
  | .mksl z bytes len cap => makeV h z bytes (opd fr len) (opd fr cap)
  | .app z bytes fz s x =>
    (listOf h z (opd fr x)).bind fun ns =>
      if fz then (fzL lo h ns).bind fun r => appV lo r.2 z bytes (opd fr s) r.1
      else appV lo h z bytes (opd fr s) ns
  | .nilacc z => some (.gsl h.length 0 z 0 0, h ++ [.arr []])
  | .rng x => (match opd fr x with | .str s => some (.itr h.length, h ++ [.iter s 0]) | _ => none)
  | .nxt it => nextV lo h (opd fr it)
  | .call f args => doCall O vp lo h f (args.map (opd fr))
  | .calld ro f args =>
    match opd fr f with
    | .func f a b => if ro = true ∧ isRO vp f = false then none else doCall O vp lo h f (a ++ args.map (opd fr) ++ b)
    | _ => none
  | .inv m recv args =>
    match opd fr recv with
    | .iface t v => (vp.meth t m).bind fun f => doCall O vp lo h f (v :: args.map (opd fr))
    | _ => none
  | op => (pureOp fr op).map fun v => (v, h)

/-- What an operation that was passed over leaves. -/
def passed : V := .tup []

/-- One item, its guard asked. -/
def stepIt (O : Orc) (vp : VP) (lo : Nat) (it : VIt) (fr : Fr) (h : Heap) : Option (V × Heap) :=
  match it.g with
  | none => evalOp O vp lo fr h it.op
  | some (t, want) =>
    match lk fr t with
    | .bool b => if b = want then evalOp O vp lo fr h it.op else some (passed, h)
    | .tup [] => some (passed, h)
    | _ => none

def runOps (O : Orc) (vp : VP) (lo : Nat) : List VIt → Fr → Heap → Option (Fr × Heap)
  | [], fr, h => some (fr, h)
  | it :: r, fr, h => (stepIt O vp lo it fr h).bind fun x => runOps O vp lo r (put fr it.dst x.1) x.2

/-- A load that was done: its place in the region, what it read, what it got. -/
structure LRec where
  p : Nat
  agg : Bool
  n : Nat
  a : V
  v : V

/-- The load that item p was, if it was one that ran. -/
def recOf (p : Nat) (it : VIt) (fr : Fr) (h : Heap) (x : V) : List LRec :=
  match it.op with
  | .load agg n a => if isSomeV (loadV h agg n (opd fr a)) x = true then [⟨p, agg, n, opd fr a, x⟩] else []
  | _ => []

/-- A region that draws its order, run in one order that it may draw; what may change places is asked. -/
def runD (O : Orc) (vp : VP) (lo : Nat) : List VDt → Nat → List LRec → Fr → Heap → Option (Fr × Heap)
  | [], _, _, fr, h => some (fr, h)
  | d :: r, p, rs, fr, h => (stepIt O vp lo d.it fr h).bind fun x =>
    if (rs.all fun e => !d.xl.contains e.p || isSomeV (loadV x.2 e.agg e.n e.a) e.v) = true then runD O vp lo r (p + 1) (recOf p d.it fr h x.1 ++ rs) (put fr d.it.dst x.1) x.2 else none

def exec (O : Orc) (vp : VP) (lo : Nat) : VCode → Fr → Heap → Option (Ex × Fr × Heap)
  | .skip, fr, h => some (.nrm, fr, h)
  | .reg ops ks, fr, h => (runOps O vp lo ops fr h).map fun r => (.nrm, keep ks r.1, r.2)
  | .drw ds ks, fr, h => (runD O vp lo ds 0 [] fr h).map fun r => (.nrm, keep ks r.1, r.2)
  | .seq a b, fr, h => (exec O vp lo a fr h).bind fun r =>
    match r with
    | (.nrm, fr, h) => exec O vp lo b fr h
    | r => some r
  | .cond c a b, fr, h =>
    match opd fr c with
    | .bool c => if c then exec O vp lo a fr h else exec O vp lo b fr h
    | _ => none
  | .blk id body, fr, h => (exec O vp lo body fr h).map fun r =>
    match r with
    | (.brk i, fr, h) => if i = id then (.nrm, fr, h) else (.brk i, fr, h)
    | r => r
  | .loop ks body, fr, h => O.loop lo ks body (keep ks fr) h
  | .exit id, fr, h => some (.brk id, fr, h)
  | .ret, fr, h => some (.ret, fr, h)

def resV1 (fr : Fr) (h : Heap) : VRes → Option V
  | .tmp t => some (lk fr t)
  | .cell t agg n => loadV h agg n (lk fr t)

def resL (fr : Fr) (h : Heap) : List VRes → Option (List V)
  | [] => some []
  | r :: l => (resV1 fr h r).bind fun v => (resL fr h l).map (v :: ·)

def resV (fr : Fr) (h : Heap) (l : List VRes) : Option V :=
  (resL fr h l).map fun vs => match vs with | [v] => v | vs => .tup vs

def stepLoop (O : Orc) (vp : VP) (lo : Nat) (ks : List Nat) (body : VCode) (fr : Fr) (h : Heap) : Option (Ex × Fr × Heap) :=
  (exec O vp lo body fr h).bind fun r =>
    match r with
    | (.nrm, fr1, h1) => O.loop lo ks body (keep ks fr1) (gcLoop vp h (keep ks fr1) h1)
    | r => some r

def stepCall (O : Orc) (vp : VP) (f lo : Nat) (args : List V) (h : Heap) : Option (V × Heap) :=
  (vp.fn f).bind fun vf => (exec O vp lo vf.body (parms 0 args) h).bind fun r =>
    match r with
    | (.brk _, _, _) => none
    | (_, fr, h1) => (resV fr h1 vf.results).map fun v => (v, h1)

def orcN (vp : VP) : Nat → Orc
  | 0 => ⟨fun _ _ _ _ => none, fun _ _ _ _ _ => none⟩
  | n + 1 => ⟨fun f lo args h => stepCall (orcN vp n) vp f lo args h, fun lo ks body fr h => stepLoop (orcN vp n) vp lo ks body fr h⟩

/-- 'O' knows no more than 'O''. -/
structure Orc.le (O O' : Orc) : Prop where
  call : ∀ f lo args h r, O.call f lo args h = some r → O'.call f lo args h = some r
  loop : ∀ lo ks body fr h r, O.loop lo ks body fr h = some r → O'.loop lo ks body fr h = some r

theorem doCall_mono {O O' : Orc} (hO : O.le O') {vp : VP} {lo : Nat} {h : Heap} {f : Nat} {args : List V} {r : V × Heap}
    (e : doCall O vp lo h f args = some r) : doCall O' vp lo h f args = some r := by
  unfold doCall at *
  cases hf : vp.fn f with
  | none => rw [hf] at e; exact absurd e (by simp)
  | some vf =>
    rw [hf] at e
    simp only at e ⊢
    cases hx : vf.ext with
    | some p => rw [hx] at e; exact e
    | none =>
      rw [hx] at e
      simp only at e ⊢
      split at e
      · rename_i hrw
        rw [if_pos hrw]
        simp only [Option.map_eq_some_iff] at e ⊢
        obtain ⟨x, hx, e⟩ := e
        exact ⟨x, hO.call _ _ _ _ _ hx, e⟩
      · rename_i hrw
        rw [if_neg hrw]
        simp only [Option.bind_eq_some_iff] at e ⊢
        obtain ⟨as, ha, e⟩ := e
        refine ⟨as, ha, ?_⟩
        split at e
        · rename_i hb
          rw [if_pos hb]
          simp only [Option.bind_eq_some_iff] at e ⊢
          obtain ⟨x, hx, e⟩ := e
          exact ⟨x, hO.call _ _ _ _ _ hx, e⟩
        · rename_i hb
          rw [if_neg hb]
          simp only [Option.bind_eq_some_iff] at e ⊢
          obtain ⟨x, hx, e⟩ := e
          exact ⟨x, hO.call _ _ _ _ _ hx, e⟩

theorem evalOp_mono {O O' : Orc} (hO : O.le O') {vp : VP} {lo : Nat} {fr : Fr} {h : Heap} {op : VOp} {r : V × Heap}
    (e : evalOp O vp lo fr h op = some r) : evalOp O' vp lo fr h op = some r := by
  cases op <;> simp only [evalOp] at e ⊢ <;> try exact e
  · exact doCall_mono hO e
  · split at e
    · split at e
      · exact absurd e (by simp)
      · rename_i hn; rw [if_neg hn]; exact doCall_mono hO e
    · exact absurd e (by simp)
  · split at e
    · simp only [Option.bind_eq_some_iff] at e ⊢
      obtain ⟨f, hf, e⟩ := e
      exact ⟨f, hf, doCall_mono hO e⟩
    · exact absurd e (by simp)

theorem stepIt_mono {O O' : Orc} (hO : O.le O') {vp : VP} {lo : Nat} {it : VIt} {fr : Fr} {h : Heap} {r : V × Heap} (e : stepIt O vp lo it fr h = some r) : stepIt O' vp lo it fr h = some r := by
  unfold stepIt at e ⊢
  split at e
  · exact evalOp_mono hO e
  · split at e
    · split at e
      · rename_i hb
        rw [if_pos hb]; exact evalOp_mono hO e
      · rename_i hb
        rw [if_neg hb]; exact e
    · exact e
    · exact absurd e (by simp)

theorem runOps_mono {O O' : Orc} (hO : O.le O') {vp : VP} {lo : Nat} : ∀ (ops : List VIt) {fr : Fr} {h : Heap} {r : Fr × Heap},
    runOps O vp lo ops fr h = some r → runOps O' vp lo ops fr h = some r
  | [], _, _, _, e => e
  | it :: ops, fr, h, r, e => by
    simp only [runOps, Option.bind_eq_some_iff] at e ⊢
    obtain ⟨x, hx, e⟩ := e
    exact ⟨x, stepIt_mono hO hx, runOps_mono hO ops e⟩

theorem runD_mono {O O' : Orc} (hO : O.le O') {vp : VP} {lo : Nat} : ∀ (ds : List VDt) {p : Nat} {rs : List LRec} {fr : Fr} {h : Heap} {r : Fr × Heap},
    runD O vp lo ds p rs fr h = some r → runD O' vp lo ds p rs fr h = some r
  | [], _, _, _, _, _, e => e
  | d :: ds, p, rs, fr, h, r, e => by
    simp only [runD, Option.bind_eq_some_iff] at e ⊢
    obtain ⟨x, hx, e⟩ := e
    refine ⟨x, stepIt_mono hO hx, ?_⟩
    split at e
    · rename_i hc
      rw [if_pos hc]; exact runD_mono hO ds e
    · exact absurd e (by simp)

theorem exec_mono {O O' : Orc} (hO : O.le O') {vp : VP} {lo : Nat} : ∀ (c : VCode) {fr : Fr} {h : Heap} {r : Ex × Fr × Heap},
    exec O vp lo c fr h = some r → exec O' vp lo c fr h = some r := by
  intro c
  induction c with
  | skip => intro fr h r e; exact e
  | reg ops ks =>
    intro fr h r e
    simp only [exec, Option.map_eq_some_iff] at e ⊢
    obtain ⟨x, hx, rfl⟩ := e
    exact ⟨x, runOps_mono hO ops hx, rfl⟩
  | drw ds ks =>
    intro fr h r e
    simp only [exec, Option.map_eq_some_iff] at e ⊢
    obtain ⟨x, hx, rfl⟩ := e
    exact ⟨x, runD_mono hO ds hx, rfl⟩
  | seq a b iha ihb =>
    intro fr h r e
    simp only [exec, Option.bind_eq_some_iff] at e ⊢
    obtain ⟨x, hx, e⟩ := e
    refine ⟨x, iha hx, ?_⟩
    obtain ⟨ex, fr1, h1⟩ := x
    cases ex <;> simp only at e ⊢ <;> first | exact ihb e | exact e
  | cond c a b iha ihb =>
    intro fr h r e
    simp only [exec] at e ⊢
    split at e
    · split at e
      · rename_i hc; rw [if_pos hc]; exact iha e
      · rename_i hc; rw [if_neg hc]; exact ihb e
    · exact absurd e (by simp)
  | blk id body ih =>
    intro fr h r e
    simp only [exec, Option.map_eq_some_iff] at e ⊢
    obtain ⟨x, hx, e⟩ := e
    exact ⟨x, ih hx, e⟩
  | loop ks body ih => intro fr h r e; exact hO.loop _ _ _ _ _ _ e
  | exit id => intro fr h r e; exact e
  | ret => intro fr h r e; exact e

theorem stepLoop_mono {O O' : Orc} (hO : O.le O') {vp : VP} {lo : Nat} {ks : List Nat} {body : VCode} {fr : Fr} {h : Heap} {r : Ex × Fr × Heap}
    (e : stepLoop O vp lo ks body fr h = some r) : stepLoop O' vp lo ks body fr h = some r := by
  simp only [stepLoop, Option.bind_eq_some_iff] at e ⊢
  obtain ⟨x, hx, e⟩ := e
  refine ⟨x, exec_mono hO _ hx, ?_⟩
  obtain ⟨ex, fr1, h1⟩ := x
  cases ex <;> simp only at e ⊢ <;> first | exact hO.loop _ _ _ _ _ _ e | exact e

theorem stepCall_mono {O O' : Orc} (hO : O.le O') {vp : VP} {f lo : Nat} {args : List V} {h : Heap} {r : V × Heap}
    (e : stepCall O vp f lo args h = some r) : stepCall O' vp f lo args h = some r := by
  simp only [stepCall, Option.bind_eq_some_iff] at e ⊢
  obtain ⟨vf, hv, x, hx, e⟩ := e
  exact ⟨vf, hv, x, exec_mono hO _ hx, e⟩

theorem orcN_le_succ (vp : VP) : ∀ n, (orcN vp n).le (orcN vp (n + 1))
  | 0 => ⟨fun _ _ _ _ _ e => absurd e (by simp [orcN]), fun _ _ _ _ _ _ e => absurd e (by simp [orcN])⟩
  | n + 1 => ⟨fun _ _ _ _ _ e => stepCall_mono (orcN_le_succ vp n) e, fun _ _ _ _ _ _ e => stepLoop_mono (orcN_le_succ vp n) e⟩

theorem Orc.le_refl (O : Orc) : O.le O := ⟨fun _ _ _ _ _ e => e, fun _ _ _ _ _ _ e => e⟩
theorem Orc.le_trans {A B C : Orc} (h : A.le B) (k : B.le C) : A.le C :=
  ⟨fun _ _ _ _ _ e => k.call _ _ _ _ _ (h.call _ _ _ _ _ e), fun _ _ _ _ _ _ e => k.loop _ _ _ _ _ _ (h.loop _ _ _ _ _ _ e)⟩

theorem orcN_le (vp : VP) {m n : Nat} (h : m ≤ n) : (orcN vp m).le (orcN vp n) := by
  induction h with
  | refl => exact Orc.le_refl _
  | step _ ih => exact Orc.le_trans ih (orcN_le_succ vp _)

open Classical in
/-- The answer of a rising row of answers. -/
noncomputable def lim {α : Type} (g : Nat → Option α) : Option α :=
  if h : ∃ n a, g n = some a then some h.choose_spec.choose else none

theorem lim_some {α : Type} {g : Nat → Option α} {a : α} (h : lim g = some a) : ∃ n, g n = some a := by
  unfold lim at h
  split at h
  · rename_i hex
    have := hex.choose_spec.choose_spec
    simp only [Option.some.injEq] at h
    exact ⟨_, h ▸ this⟩
  · exact absurd h (by simp)

theorem lim_of {α : Type} {g : Nat → Option α} (mono : ∀ m n a, m ≤ n → g m = some a → g n = some a) {n : Nat} {a : α} (h : g n = some a) : lim g = some a := by
  have hex : ∃ n a, g n = some a := ⟨n, a, h⟩
  unfold lim
  rw [dif_pos hex]
  have hs := hex.choose_spec.choose_spec
  rcases Nat.le_total n hex.choose with hle | hle
  · exact hs.symm.trans (mono _ _ _ hle h)
  · exact (mono _ _ _ hle hs).symm.trans h

noncomputable def orc (vp : VP) : Orc :=
  ⟨fun f lo args h => lim fun n => (orcN vp n).call f lo args h, fun lo ks body fr h => lim fun n => (orcN vp n).loop lo ks body fr h⟩

theorem orcN_le_orc (vp : VP) (n : Nat) : (orcN vp n).le (orc vp) :=
  ⟨fun f lo args h r e => lim_of (fun _ _ _ hle e => (orcN_le vp hle).call _ _ _ _ _ e) e,
   fun lo ks body fr h r e => lim_of (fun _ _ _ hle e => (orcN_le vp hle).loop _ _ _ _ _ _ e) e⟩

theorem orc_call_some {vp : VP} {f lo : Nat} {args : List V} {h : Heap} {r : V × Heap} (e : (orc vp).call f lo args h = some r) :
    ∃ n, (orcN vp n).call f lo args h = some r := lim_some e
theorem orc_loop_some {vp : VP} {lo : Nat} {ks : List Nat} {body : VCode} {fr : Fr} {h : Heap} {r : Ex × Fr × Heap} (e : (orc vp).loop lo ks body fr h = some r) :
    ∃ n, (orcN vp n).loop lo ks body fr h = some r := lim_some e

theorem doCall_cont {vp : VP} {lo : Nat} {h : Heap} {f : Nat} {args : List V} {r : V × Heap}
    (e : doCall (orc vp) vp lo h f args = some r) : ∃ n, doCall (orcN vp n) vp lo h f args = some r := by
  unfold doCall at *
  cases hf : vp.fn f with
  | none => rw [hf] at e; exact absurd e (by simp)
  | some vf =>
    rw [hf] at e
    simp only at e ⊢
    cases hx : vf.ext with
    | some p => rw [hx] at e; exact ⟨0, e⟩
    | none =>
      rw [hx] at e
      simp only at e ⊢
      split at e
      · rename_i hrw
        simp only [if_pos hrw]
        simp only [Option.map_eq_some_iff] at e ⊢
        obtain ⟨x, hx, e⟩ := e
        obtain ⟨n, hn⟩ := orc_call_some hx
        exact ⟨n, x, hn, e⟩
      · rename_i hrw
        simp only [if_neg hrw]
        simp only [Option.bind_eq_some_iff] at e ⊢
        obtain ⟨as, ha, e⟩ := e
        split at e
        · rename_i hb
          simp only [Option.bind_eq_some_iff] at e
          obtain ⟨x, hx, e⟩ := e
          obtain ⟨n, hn⟩ := orc_call_some hx
          exact ⟨n, as, ha, by rw [if_pos hb]; simp only [Option.bind_eq_some_iff]; exact ⟨x, hn, e⟩⟩
        · rename_i hb
          simp only [Option.bind_eq_some_iff] at e
          obtain ⟨x, hx, e⟩ := e
          obtain ⟨n, hn⟩ := orc_call_some hx
          exact ⟨n, as, ha, by rw [if_neg hb]; simp only [Option.bind_eq_some_iff]; exact ⟨x, hn, e⟩⟩

theorem evalOp_cont {vp : VP} {lo : Nat} {fr : Fr} {h : Heap} {op : VOp} {r : V × Heap}
    (e : evalOp (orc vp) vp lo fr h op = some r) : ∃ n, evalOp (orcN vp n) vp lo fr h op = some r := by
  cases op <;> simp only [evalOp] at e ⊢ <;> try exact ⟨0, e⟩
  · exact doCall_cont e
  · split at e
    · split at e
      · exact absurd e (by simp)
      · rename_i hn
        obtain ⟨n, h⟩ := doCall_cont e
        exact ⟨n, by rw [if_neg hn]; exact h⟩
    · exact absurd e (by simp)
  · split at e
    · simp only [Option.bind_eq_some_iff] at e ⊢
      obtain ⟨f, hf, e⟩ := e
      obtain ⟨n, h⟩ := doCall_cont e
      exact ⟨n, f, hf, h⟩
    · exact absurd e (by simp)

theorem stepIt_cont {vp : VP} {lo : Nat} {it : VIt} {fr : Fr} {h : Heap} {r : V × Heap} (e : stepIt (orc vp) vp lo it fr h = some r) : ∃ n, stepIt (orcN vp n) vp lo it fr h = some r := by
  unfold stepIt at e ⊢
  split at e
  · exact evalOp_cont e
  · split at e
    · split at e
      · rename_i hb
        simp only [if_pos hb]; exact evalOp_cont e
      · rename_i hb
        simp only [if_neg hb]; exact ⟨0, e⟩
    · exact ⟨0, e⟩
    · exact absurd e (by simp)

theorem runOps_cont {vp : VP} {lo : Nat} : ∀ (ops : List VIt) {fr : Fr} {h : Heap} {r : Fr × Heap},
    runOps (orc vp) vp lo ops fr h = some r → ∃ n, runOps (orcN vp n) vp lo ops fr h = some r
  | [], _, _, _, e => ⟨0, e⟩
  | it :: ops, fr, h, r, e => by
    simp only [runOps, Option.bind_eq_some_iff] at e ⊢
    obtain ⟨x, hx, e⟩ := e
    obtain ⟨n, hn⟩ := stepIt_cont hx
    obtain ⟨m, hm⟩ := runOps_cont ops e
    exact ⟨max n m, x, stepIt_mono (orcN_le vp (Nat.le_max_left n m)) hn, runOps_mono (orcN_le vp (Nat.le_max_right n m)) ops hm⟩

theorem runD_cont {vp : VP} {lo : Nat} : ∀ (ds : List VDt) {p : Nat} {rs : List LRec} {fr : Fr} {h : Heap} {r : Fr × Heap},
    runD (orc vp) vp lo ds p rs fr h = some r → ∃ n, runD (orcN vp n) vp lo ds p rs fr h = some r
  | [], _, _, _, _, _, e => ⟨0, e⟩
  | d :: ds, p, rs, fr, h, r, e => by
    simp only [runD, Option.bind_eq_some_iff] at e ⊢
    obtain ⟨x, hx, e⟩ := e
    obtain ⟨n, hn⟩ := stepIt_cont hx
    split at e
    · rename_i hc
      obtain ⟨m, hm⟩ := runD_cont ds e
      exact ⟨max n m, x, stepIt_mono (orcN_le vp (Nat.le_max_left n m)) hn, by rw [if_pos hc]; exact runD_mono (orcN_le vp (Nat.le_max_right n m)) ds hm⟩
    · exact absurd e (by simp)

theorem exec_cont {vp : VP} {lo : Nat} : ∀ (c : VCode) {fr : Fr} {h : Heap} {r : Ex × Fr × Heap},
    exec (orc vp) vp lo c fr h = some r → ∃ n, exec (orcN vp n) vp lo c fr h = some r := by
  intro c
  induction c with
  | skip => intro fr h r e; exact ⟨0, e⟩
  | reg ops ks =>
    intro fr h r e
    simp only [exec, Option.map_eq_some_iff] at e ⊢
    obtain ⟨x, hx, rfl⟩ := e
    obtain ⟨n, hn⟩ := runOps_cont ops hx
    exact ⟨n, x, hn, rfl⟩
  | drw ds ks =>
    intro fr h r e
    simp only [exec, Option.map_eq_some_iff] at e ⊢
    obtain ⟨x, hx, rfl⟩ := e
    obtain ⟨n, hn⟩ := runD_cont ds hx
    exact ⟨n, x, hn, rfl⟩
  | seq a b iha ihb =>
    intro fr h r e
    simp only [exec, Option.bind_eq_some_iff] at e ⊢
    obtain ⟨x, hx, e⟩ := e
    obtain ⟨n, hn⟩ := iha hx
    obtain ⟨ex, fr1, h1⟩ := x
    cases ex with
    | nrm =>
      simp only at e
      obtain ⟨m, hm⟩ := ihb e
      exact ⟨max n m, _, exec_mono (orcN_le vp (Nat.le_max_left n m)) _ hn, exec_mono (orcN_le vp (Nat.le_max_right n m)) _ hm⟩
    | brk i => exact ⟨n, _, hn, e⟩
    | ret => exact ⟨n, _, hn, e⟩
  | cond c a b iha ihb =>
    intro fr h r e
    simp only [exec] at e ⊢
    split at e
    · split at e
      · rename_i hc; simp only [if_pos hc]; exact iha e
      · rename_i hc; simp only [if_neg hc]; exact ihb e
    · exact absurd e (by simp)
  | blk id body ih =>
    intro fr h r e
    simp only [exec, Option.map_eq_some_iff] at e ⊢
    obtain ⟨x, hx, e⟩ := e
    obtain ⟨n, hn⟩ := ih hx
    exact ⟨n, x, hn, e⟩
  | loop ks body ih =>
    intro fr h r e
    simp only [exec] at e ⊢
    exact orc_loop_some e
  | exit id => intro fr h r e; exact ⟨0, e⟩
  | ret => intro fr h r e; exact ⟨0, e⟩

/-- THE EQUATIONS: what a call answers is what its body does, calls and loops answered likewise. -/
theorem orc_call (vp : VP) (f lo : Nat) (args : List V) (h : Heap) : (orc vp).call f lo args h = stepCall (orc vp) vp f lo args h := by
  cases e : (orc vp).call f lo args h with
  | some r =>
    obtain ⟨n, hn⟩ := orc_call_some e
    cases n with
    | zero => exact absurd hn (by simp [orcN])
    | succ n => exact (stepCall_mono (orcN_le_orc vp n) hn).symm
  | none =>
    cases e' : stepCall (orc vp) vp f lo args h with
    | none => rfl
    | some r =>
      exfalso
      simp only [stepCall, Option.bind_eq_some_iff] at e'
      obtain ⟨vf, hv, x, hx, e'⟩ := e'
      obtain ⟨n, hn⟩ := exec_cont _ hx
      have : (orcN vp (n + 1)).call f lo args h = some r := by
        show stepCall (orcN vp n) vp f lo args h = some r
        simp only [stepCall, Option.bind_eq_some_iff]
        exact ⟨vf, hv, x, hn, e'⟩
      rw [(orcN_le_orc vp (n + 1)).call _ _ _ _ _ this] at e
      exact absurd e (by simp)

theorem orc_loop (vp : VP) (lo : Nat) (ks : List Nat) (body : VCode) (fr : Fr) (h : Heap) : (orc vp).loop lo ks body fr h = stepLoop (orc vp) vp lo ks body fr h := by
  cases e : (orc vp).loop lo ks body fr h with
  | some r =>
    obtain ⟨n, hn⟩ := orc_loop_some e
    cases n with
    | zero => exact absurd hn (by simp [orcN])
    | succ n => exact (stepLoop_mono (orcN_le_orc vp n) hn).symm
  | none =>
    cases e' : stepLoop (orc vp) vp lo ks body fr h with
    | none => rfl
    | some r =>
      exfalso
      simp only [stepLoop, Option.bind_eq_some_iff] at e'
      obtain ⟨x, hx, e'⟩ := e'
      obtain ⟨n, hn⟩ := exec_cont _ hx
      obtain ⟨ex, fr1, h1⟩ := x
      have : ∃ m, stepLoop (orcN vp m) vp lo ks body fr h = some r := by
        cases ex with
        | nrm =>
          simp only at e'
          obtain ⟨m, hm⟩ := orc_loop_some e'
          refine ⟨max n m, ?_⟩
          simp only [stepLoop, Option.bind_eq_some_iff]
          exact ⟨_, exec_mono (orcN_le vp (Nat.le_max_left n m)) _ hn, (orcN_le vp (Nat.le_max_right n m)).loop _ _ _ _ _ _ hm⟩
        | brk i => exact ⟨n, by simp only [stepLoop, Option.bind_eq_some_iff]; exact ⟨_, hn, e'⟩⟩
        | ret => exact ⟨n, by simp only [stepLoop, Option.bind_eq_some_iff]; exact ⟨_, hn, e'⟩⟩
      obtain ⟨m, hm⟩ := this
      rw [(orcN_le_orc vp (m + 1)).loop _ _ _ _ _ _ hm] at e
      exact absurd e (by simp)

/-- What a function answers, called with these arguments over this heap, where it may write from block lo on. -/
noncomputable def callF (vp : VP) (f lo : Nat) (args : List V) (h : Heap) : Option (V × Heap) := (orc vp).call f lo args h

end Go.VE
