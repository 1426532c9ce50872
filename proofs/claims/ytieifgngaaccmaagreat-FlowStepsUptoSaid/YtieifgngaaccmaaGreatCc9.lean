/- Joined texts: CkH, CkI, CkJ, CkK, CkL. No condition: what each theorem needs stands in it. -/
import Derived.Test.YtieifgngaaccmaaGreatCc8
namespace Go.VE.Un
open Go.VE
def firstF{α:Type}(f:α→Int):List α→Int
 |[]=>0
 |x::r=>if f x=0 then firstF f r else f x
def keyK(m:Image)(looks:Bool)(k:Key):Int:=
 if inB k.Kind.n 0 2=false then 10 else if k.Kind.n=2∧looks=false then 10
 else if(partW m k).isSome=false then(if k.Kind.n=2 then 7 else 5)
 else if k.Kind.n=1∧k.B.n≠0 then 7 else 0
def keyE(m:Image)(l:List Key)(looks:Bool):Int:=
 if 4<l.length then 2 else if firstF (keyK m looks) l=0 then wantE (keyW m l 0).isSome 9 else firstF (keyK m looks) l
def oneE(m:Image)(x:Case)(w:Int):Int:=
 if x.Value.good=true∧x.Mask.good=true∧x.Value.W.n=w∧x.Mask.W.n=w then
  firstE [wantE ((andV x.Value x.Mask).1.same x.Value) 14,nextE m x.Next.n]else 9
def stA(m:Image)(i:Int)(s:State):Int:=firstE [titledE (nStates m) i,wantE (decide ((s.Exts.l.length:Int)≤4)) 2]
def stB(m:Image)(s:State)(t:Bool):Int:=firstE [keyE m s.Keys.l true,wantE (decide ((s.Cases.l.length:Int)≤8)) 2,wantE t 4]
def stT(s:State):Bool:=if s.Cases.l.length=0 then true else decide (0<s.Keys.l.length)
def stO(m:Image)(s:State):Int:=firstF (fun x=>oneE m x ((keyW m s.Keys.l 0).getD 0)) s.Cases.l
def stE(m:Image)(i:Int)(s:State)(t:Bool):Int:=
 if stA m i s=0 then(if firstF (extE m) s.Exts.l=0 then(if stB m s t=0 then(if stO m s=0 then nextE m s.Next.n else stO m s)else stB m s t)else firstF (extE m) s.Exts.l)else stA m i s
def stateE(m:Image)(i:Int):Int:=match getI m.States.l i with|none=>0|some s=>stE m i s (stT s)
end Go.VE.Un
namespace Go.VE.Un
open Go.VE
def cellB(m:Image)(x:Ins)(p:Int):Bool:=
 if x.Op.n=2∨x.Op.n=23 then(metaW m x.A.n).isSome else if x.Op.n=3 then decide (x.A.n<p)
 else if x.Op.n=5∨x.Op.n=24 then decide (x.A.n<(m.Regs.l.length:Int))else if x.Op.n=29 then decide (x.A.n<(m.Counters.l.length:Int))else decide (x.A.n<(m.Meters.l.length:Int))
def refersB(m:Image)(x:Ins)(p:Int):Bool:=
 match(getI kinds x.Op.n).getD 0 with
 |281=>(field m x.A.n x.B.n).isSome
 |283=>(slot m x.A.n).isSome
 |276=>(slot m x.A.n).isSome
 |277=>(stacked m x.A.n).isSome
 |275=>cellB m x p
 |_=>true
def stepE(m:Image)(p n i:Int)(x:Ins):Int:=
 if refersB m x p=false then 5 else match targetB x with|some to=>wantE (inB to (i+1) n) 12|none=>0
def stepsE(m:Image)(p n:Int):List Ins→Int→Int
 |[],_=>0
 |x::r,i=>if stepE m p n i x=0 then stepsE m p n r (i+1)else stepE m p n i x
def codeF(m:Image)(l:List Ins)(p:Int):Int:=match allC l with|some (_,e)=>e|none=>stepsE m p l.length l 0
theorem codeE_none: ∀(l:List Ins) (i:Int),codeE l i=none→∀x∈l,mayC x=0
 |[],_,_,x,hx=>by simp at hx
 |y::r,i,h,x,hx=>by
  simp only[codeE]at h
  split at h
  ·rename_i h0
   rcases List.mem_cons.1 hx with rfl|hx
   ·exact h0
   ·exact codeE_none r _ h x hx
  ·simp at h
@[simp] theorem step_ld(x:Ins):ldc (stepV x) false 1 0=some (stepV x):=by
  unfold stepV;split<;>rfl
end Go.VE.Un
namespace Go.VE.Un
open Go.VE
def parE(w:I64):Int:=if inB w.n 1 128=true then 0 else 9
def actA(m:Image)(i:Int)(a:Action):Int:=firstE [titledE (nActions m) i,wantE (decide ((a.Params.l.length:Int)≤8)) 2]
def actionE(m:Image)(i:Int):Int:=match getI m.Actions.l i with
 |none=>0
 |some a=>if actA m i a=0 then(if firstF parE a.Params.l=0 then codeF m a.Code.l a.Params.l.length else firstF parE a.Params.l)else actA m i a
def argsR:List Vec→List I64→Int
 |[],_=>0
 |_,[]=>0
 |v::r,p::q=>if v.good=true∧v.W.n=p.n then argsR r q else 9
def argsE(m:Image)(i:Int)(l:List Vec):Int:=match getI m.Actions.l i with
 |none=>0
 |some a=>if l.length=a.Params.l.length then argsR l a.Params.l else 2
def callR(m:Image)(l:List I64):List I64→Int→Int
 |[],_=>0
 |x::r,i=>if inB x.n 0 (m.Actions.l.length-1)=false then 5 else if(x.n∈(l.take i.toNat).map (·.n))then 6 else callR m l r (i+1)
def callsE(m:Image)(l:List I64):Int:=if 8<l.length then 2 else if callR m l l 0=0 then wantE (decide (0<(l.length:Int))) 5 else callR m l l 0
end Go.VE.Un
namespace Go.VE.Un
open Go.VE
def nodeNm(m:Image)(x:Node):Bool:=
 if x.Kind.n=0 then inB x.A.n 0 (m.Tables.l.length-1)else if x.Kind.n=2 then inB x.A.n 0 (m.Actions.l.length-1)else if x.Kind.n=1 then decide (x.A.n=0)else(slot m x.A.n).isSome
def nodA(m:Image)(x:Node):Int:=firstE [wantE (decide (0≤x.Kind.n)&&decide (x.Kind.n≤3)) 10,wantE (nodeNm m x) 5]
def nodB(m:Image)(x:Node):Int:=if x.Kind.n=1 then codeF m x.Code.l 0 else wantE x.Code.l.isEmpty 4
def nodC(m:Image)(x:Node)(i n:Int):Int:=if x.Kind.n=2 then firstE [argsE m x.A.n x.Args.l,wantE (decide (x.No.n=0)) 4]else firstE [wantE x.Args.l.isEmpty 4,wantE (decide (i+1≤x.No.n)&&decide (x.No.n≤n)) 12]
def nodeE(m:Image)(x:Node)(i n:Int):Int:=
 if nodA m x=0 then(if nodB m x=0 then firstE [nodC m x i n,wantE (decide (i+1≤x.Yes.n)&&decide (x.Yes.n≤n)) 12]else nodB m x)else nodA m x
end Go.VE.Un
namespace Go.VE.Un
open Go.VE
def nodesE(m:Image)(l:List Node):Int ×Int:=allE l.length 32 fun i=>match getI l i with|some x=>nodeE m x i l.length|none=>0
def sumE(m:Image)(x:CSum):Int:=match field m x.Slot.n x.Field.n with
 |none=>5
 |some w=>wantE (decide (w=16)&&decide ((offB ((slot m x.Slot.n).getD Header.z) x.Field.n).getD 0%16=0)) 9
def sumsE(m:Image)(l:List CSum):Int ×Int:=allE l.length 4 fun i=>match getI l i with|some x=>sumE m x|none=>0
end Go.VE.Un
