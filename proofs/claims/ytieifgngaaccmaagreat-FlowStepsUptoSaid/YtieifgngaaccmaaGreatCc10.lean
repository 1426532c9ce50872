/- Joined texts: CkM, CkN, CkO, CtG, CkP, CrI. No condition: what each theorem needs stands in it. -/
import Derived.Test.YtieifgngaaccmaaGreatCc9
import Derived.Test.YtieifgngaaccmaaGreatCc1
import Derived.Test.YtieifgngaaccmaaGreatCc8
namespace Go.VE.Un
open Go.VE
def tabA(m:Image)(i:Int)(t:Table)(b c:Bool):Int:=
 firstE [titledE (nTables m) i,wantE (decide (0≤t.Kind.n)&&decide (t.Kind.n≤3)) 10,wantE b 5,keyE m t.Keys.l false,callsE m t.Actions.l,wantE c 16]
def tabT(m:Image)(i:Int)(t:Table)(b c:Bool):Int:=
 if tabA m i t b c=0 then firstE [argsE m t.Default.Action.n t.Default.Args.l,wantE (decide (1≤t.Size.n)&&decide (t.Size.n≤256)) 7]else tabA m i t b c
def tableE(m:Image)(i:Int):Int:=match getI m.Tables.l i with|none=>0|some t=>tabT m i t (decide (0<t.Keys.l.length)) (decide (t.Default.Action.n∈t.Actions.l.map (·.n)))
end Go.VE.Un
namespace Go.VE.Un
open Go.VE
def partE(m:Image)(p:Int):Int ×Int:=
 if p=0 then(0,firstE [wantE (mayN m.Name.s) 4,wantE (inB m.Ports.n 1 64&&(inB m.Depth.n 1 32&&inB m.Rounds.n 0 4)) 7])
 else if p=2 then(0,mayI m.Headers.l.length m.Insts.l)
 else if p=4 then(if m.States.l.length=0 then(0,5)else allE m.States.l.length 16 (stateE m))
 else if p=7 then nodesE m m.Ingress.l else if p=8 then nodesE m m.Egress.l else if p=10 then sumsE m m.Checks.l else if p=11 then sumsE m m.Updates.l
 else if p=1 then allE m.Headers.l.length 16 (headerE m)
 else if p=3 then allE m.Metas.l.length 16 (metaE m)
 else if p=5 then allE m.Actions.l.length 32 (actionE m)
 else if p=6 then allE m.Tables.l.length 8 (tableE m)
 else if p=9 then allE m.Deparse.l.length 32 (outE m)
 else if p=12 then allE m.Regs.l.length 8 (regE m)
 else if p=13 then allE m.Counters.l.length 8 (counterE m)
 else if p=14 then allE m.Meters.l.length 8 (meterE m)
 else(0,0)
end Go.VE.Un
namespace Go.VE.Un
open Go.VE
def checkR(m:Image):Nat→Int→Option (Int ×Int ×Int)
 |0,_=>none
 |j+1,p=>if(partE m p).2=0 then checkR m j (p+1)else some (p,(partE m p).1,(partE m p).2)
def checkI(m:Image):Option (Int ×Int ×Int):=checkR m 15 0
end Go.VE.Un
namespace Go.VE.Un
open Go.VE
end Go.VE.Un
namespace Go.VE.Un
open Go.VE
theorem checkR_none{m:Image}: ∀(j:Nat) (p q:Int),checkR m j p=none→p≤q→q<p+j→(partE m q).2=0
 |0,p,q,_,h1,h2=>by omega
 |j+1,p,q,h,h1,h2=>by
  simp only[checkR]at h
  split at h
  ·rename_i h0
   by_cases he:p=q
   ·subst he;exact h0
   ·exact checkR_none j (p+1) q h (by omega) (by omega)
  ·simp at h
theorem check_none{m:Image}(h:checkI m=none)(q:Int)(h0:0≤q)(h1:q<15):(partE m q).2=0:=checkR_none 15 0 q h h0 (by omega)
theorem allR_none{ask:Int→Int}: ∀(j:Nat) (p q:Int),((allR ask j p).getD (0,0)).2=0→p≤q→q<p+j→ask q=0
 |0,p,q,_,h1,h2=>by omega
 |j+1,p,q,h,h1,h2=>by
  simp only[allR]at h
  split at h
  ·rename_i h0
   by_cases he:p=q
   ·subst he;exact h0
   ·exact allR_none j (p+1) q h (by omega) (by omega)
  ·rename_i h0;simp at h;exact absurd h h0
theorem allE_0{n most:Int}{ask:Int→Int}(h:(allE n most ask).2=0):n≤most∧∀i,0≤i→i<n→ask i=0:=by
 unfold allE at h
 split at h
 ·simp at h
 ·exact⟨by omega,fun i h0 h1=>allR_none n.toNat 0 i h h0 (by omega)⟩
theorem mayC_A{x:Ins}(h:mayC x=0){s:Sh}(hs:getI shapes x.Op.n=some s):s.fr≤x.A.n:=by
 unfold mayC at h
 rw[hs]at h
 simp only at h
 split at h
 ·simp at h
 ·rename_i hc
  simp[inB]at hc
  omega
end Go.VE.Un
namespace Go.VE.Un
open Go.VE
theorem loop820_0(hs:V)(l:GL Inst)(y:Inst)(i:Int)(hi:getI l.l i=some y)(hl:l.l.length≤16)(hb: ∀f∈l.l,f.Name.s.length≤17592186044416): ∀(r:List Inst) (k:Int),0≤k→k≤i→(l.l.take i.toNat).drop k.toNat=r→(orc vp).loop 0 [0,1,5,6] L820_0 [(0,hs),(1,GL.v 3 Inst.v l),(5,.int .i64 i),(6,.int .i64 k)] []=
 (if r.any (fun x=>decide (keyL x.Name.s=keyL y.Name.s))=true then some (.ret,[(4,.int .i64 6)],[])else some (.brk 2,[(0,hs),(1,GL.v 3 Inst.v l),(5,.int .i64 i),(6,.int .i64 i),(25,.bool false)],[])):=by
 have hil:=getI_lt hi
 intro r
 induction r with
 |nil=>
  intro k hk hkl hd
  have hle:=drop_nil hk hd
  have hlt: ¬k<i:=by simp at hle;omega
  have he:k=i:=by omega
  rw[lp820_0]
  simp -implicitDefEqProofs [hlt,he]
 |cons x r ih=>
  intro k hk hkl hd
  obtain⟨hg,hlt,hd'⟩:=drop_cons hk hd
  have hlt:k<i:=by simp at hlt;omega
  rw[getI_take hk hlt]at hg
  have w1:IntKind.i64.wrap (k+1)=k+1:=wrap64 (by omega) (by omega)
  have ih:=ih (k+1) (by omega) (by omega) hd'
  have ha:=alike818 x.Name.s y.Name.s (hb x (getI_mem hg)) (hb y (getI_mem hi))
  rw[lp820_0]
  by_cases c:keyL x.Name.s=keyL y.Name.s
  ·simp -implicitDefEqProofs [hlt,hg,hi,ha,c]
  ·simp -implicitDefEqProofs [w1,hlt,hg,hi,ha,c,ih]
theorem inB_split{a b c:Int}:inB a b c=false↔a<b∨c<a:=by unfold inB;simp;omega
theorem loop820_1(hs:GL Header)(l:GL Inst)(hl:l.l.length≤16)(hb: ∀f∈l.l,f.Name.s.length≤17592186044416): ∀(r:List Inst) (k:Int),0≤k→k≤l.l.length→l.l.drop k.toNat=r→(orc vp).loop 0 [0,1,5] L820_1 [(0,GL.v 6 Header.v hs),(1,GL.v 3 Inst.v l),(5,.int .i64 k)] []=
 (if instsE hs.l.length r ((l.l.take k.toNat).map fun f=>f.Name.s)=0 then some (.brk 0,[(0,GL.v 6 Header.v hs),(1,GL.v 3 Inst.v l),(5,.int .i64 l.l.length),(13,.bool false)],[])
  else some (.ret,[(4,.int .i64 (instsE hs.l.length r ((l.l.take k.toNat).map fun f=>f.Name.s)))],[])):=by
 intro r
 induction r with
 |nil=>
  intro k hk hkl hd
  have hle:=drop_nil hk hd
  have hlt: ¬k<l.l.length:=by omega
  have he:k=l.l.length:=by omega
  rw[lp820_1]
  simp -implicitDefEqProofs [hlt,he,instsE]
 |cons y r ih=>
  intro k hk hkl hd
  obtain⟨hg,hlt,hd'⟩:=drop_cons hk hd
  have w1:IntKind.i64.wrap (k+1)=k+1:=wrap64 (by omega) (by omega)
  have hp:=rplain822 y.Name.s (hb y (getI_mem hg))
  have hi:=loop820_0 (GL.v 6 Header.v hs) l y k hg hl hb _ 0 (by omega) hk rfl
  rw[show(0:Int).toNat=0 from rfl,List.drop_zero]at hi
  have hany:(0≤idxK (keyL y.Name.s) ((l.l.take k.toNat).map fun f=>f.Name.s) 0)↔(l.l.take k.toNat).any (fun x=>decide (keyL x.Name.s=keyL y.Name.s))=true:=by
   rw[idxK_any _ _ 0 (by omega),List.any_map];rfl
  have ih:=ih (k+1) (by omega) (by omega) hd'
  have ht:((l.l.take (k+1).toNat).map fun f=>f.Name.s)=((l.l.take k.toNat).map fun f=>f.Name.s)++[y.Name.s]:=by
   rw[show(k+1).toNat=k.toNat+1 by omega,List.take_add_one]
   rw[getI,if_pos hk]at hg
   simp[hg]
  rw[ht]at ih
  have hst:instsE hs.l.length (y::r) ((l.l.take k.toNat).map fun f=>f.Name.s)=if plainN y.Name.s=false then 4 else if 0≤idxK (keyL y.Name.s) ((l.l.take k.toNat).map fun f=>f.Name.s) 0 then 6 else if inB y.Header.n 0 (hs.l.length-1)=false then 5 else if inB y.Depth.n 0 4=false then 7 else instsE hs.l.length r (((l.l.take k.toNat).map fun f=>f.Name.s)++[y.Name.s]):=rfl
  generalize (l.l.take k.toNat).map (fun f=>f.Name.s)=ns at*
  generalize (l.l.take k.toNat).any (fun x=>decide (keyL x.Name.s=keyL y.Name.s))=dup at*
  rw[hst,lp820_1]
  cases c1:plainN y.Name.s with
  |false=>
   rw[c1]at hp
   simp -implicitDefEqProofs [hlt,hg,hp]
  |true=>
   rw[c1]at hp
   by_cases c2:dup=true
   ·rw[if_pos c2]at hi
    have c3:=hany.2 c2
    simp -implicitDefEqProofs [hlt,hg,hp,hi,c3]
   ·rw[if_neg c2]at hi
    have c3: ¬0≤idxK (keyL y.Name.s) ns 0:=fun e=>c2 (hany.1 e)
    by_cases d1:y.Header.n<0
    ·have e:inB y.Header.n 0 (hs.l.length-1)=false:=inB_split.2 (.inl d1)
     simp -implicitDefEqProofs [hlt,hg,hp,hi,c3,d1,e]
    ·by_cases d2:(hs.l.length:Int)≤y.Header.n
     ·have e:inB y.Header.n 0 (hs.l.length-1)=false:=inB_split.2 (.inr (by omega))
      simp -implicitDefEqProofs [hlt,hg,hp,hi,c3,d1,d2,e]
     ·have e:inB y.Header.n 0 (hs.l.length-1)=true:=by unfold inB;simp;omega
      by_cases d3:y.Depth.n<0
      ·have e2:inB y.Depth.n 0 4=false:=inB_split.2 (.inl d3)
       simp -implicitDefEqProofs [hlt,hg,hp,hi,c3,d1,d2,d3,e,e2]
      ·by_cases d4:4<y.Depth.n
       ·have e2:inB y.Depth.n 0 4=false:=inB_split.2 (.inr d4)
        simp -implicitDefEqProofs [hlt,hg,hp,hi,c3,d1,d2,d3,d4,e,e2]
       ·have e2:inB y.Depth.n 0 4=true:=by unfold inB;simp;omega
        simp -implicitDefEqProofs [hlt,hg,hp,hi,c3,d1,d2,d3,d4,e,e2,w1,ih]
theorem rinsts820(hs:GL Header)(l:GL Inst)(hb:l.l.length≤16→∀f∈l.l,f.Name.s.length≤17592186044416):callRO vp 820 [GL.v 6 Header.v hs,GL.v 3 Inst.v l]=some (.int .i64 (mayI hs.l.length l.l)):=by
 rw[callRO_K fn820]
 by_cases c1:16<l.l.length
 ·have c1':(16:Int)<l.l.length:=by omega
  simp -implicitDefEqProofs [c1,c1',mayI]
 ·have c1': ¬(16:Int)<l.l.length:=by omega
  have hl:=loop820_1 hs l (by omega) (hb (by omega)) l.l 0 (by omega) (by omega) rfl
  simp only[show(0:Int).toNat=0 from rfl,List.take_zero,List.map_nil]at hl
  by_cases c2:instsE hs.l.length l.l []=0
  ·rw[if_pos c2]at hl
   have hle:=l.le
   have hsl:=slots823 l (by omega)
   have hlen:=slotP_len 0 l.l
   generalize slotP 0 l.l=sp at*
   by_cases c3:32<slotsN l.l
   ·have c3':(32:Int)<sp.length:=by omega
    simp -implicitDefEqProofs [c1,c1',c2,hl,mayI,hsl,c3,c3']
   ·have c3': ¬(32:Int)<sp.length:=by omega
    simp -implicitDefEqProofs [c1,c1',c2,hl,mayI,hsl,c3,c3']
  ·rw[if_neg c2]at hl
   simp -implicitDefEqProofs [c1,c1',c2,hl,mayI]
end Go.VE.Un
