/- Joined texts: CkH, CkI, CkJ, CkK, CkL. No condition: what each theorem needs stands in it. -/
import Derived.Test.YtieifgngaaccmaaGreatCc8
namespace Go.VE.Un
open Go.VE
theorem nilchk_m(m:Image)(fr:Fr)(x:VOpd)(e:opd fr x=chkV m):pureOp fr (.nilchk x)=some (chkV m):=by simp only[pureOp,e]
def firstF{α:Type}(f:α→Int):List α→Int
 |[]=>0
 |x::r=>if f x=0 then firstF f r else f x
def keyK(m:Image)(looks:Bool)(k:Key):Int:=
 if inB k.Kind.n 0 2=false then 10 else if k.Kind.n=2∧looks=false then 10
 else if(partW m k).isSome=false then(if k.Kind.n=2 then 7 else 5)
 else if k.Kind.n=1∧k.B.n≠0 then 7 else 0
theorem loop121(m:Image)(hm:Clo m)(looks:Bool)(l:GL Key): ∀(r:List Key) (k:Int),0≤k→k≤l.l.length→l.l.drop k.toNat=r→∃hh,(orc vp).loop 0 [0,1,2,16,17,18] L121_0 [(0,chkV m),(1,GL.v 3 Key.v l),(2,.bool looks),(16,GL.v 3 Key.v l),(17,.int .i64 l.l.length),(18,.int .i64 k)] []=
 (if firstF (keyK m looks) r=0 then some (.brk 0,[(0,chkV m),(1,GL.v 3 Key.v l),(2,.bool looks),(16,GL.v 3 Key.v l),(17,.int .i64 l.l.length),(18,.int .i64 l.l.length),(19,.bool false)],[])
  else some (.ret,[(6,.int .i64 (firstF (keyK m looks) r))],hh)):=by
 have hle:=l.le
 intro r
 induction r with
 |nil=>
  intro k hk hkl hd
  have hlt: ¬k<l.l.length:=by have:=drop_nil hk hd;omega
  have he:k=l.l.length:=by have:=drop_nil hk hd;omega
  refine⟨[],?_⟩
  rw[lp121_0]
  simp -implicitDefEqProofs [hlt,he,firstF]
 |cons x r ih=>
  intro k hk hkl hd
  obtain⟨hg,hlt,hd'⟩:=drop_cons hk hd
  have w1:IntKind.i64.wrap (k+1)=k+1:=wrap64 (by omega) (by omega)
  obtain⟨hh,ih⟩:=ih (k+1) (by omega) (by omega) hd'
  by_cases c1:(decide (0≤x.Kind.n)&&decide (x.Kind.n≤2))=true
  ·have cc:x.Kind.n=0∨x.Kind.n=1∨x.Kind.n=2:=by simp at c1;omega
   have hp:=part510 m x hm
   cases hw:(partW m x).isSome with
   |false=>
    rw[hw]at hp
    refine⟨[.arr [x.v]],?_⟩
    rw[lp121_0]
    rcases cc with c|c|c
    ·simp -implicitDefEqProofs [hlt,hg,hp,hw,c1,c,keyK,firstF,inB,nilchk_m m]
    ·simp -implicitDefEqProofs [hlt,hg,hp,hw,c1,c,keyK,firstF,inB,nilchk_m m]
    ·cases looks<;>simp -implicitDefEqProofs [hlt,hg,hp,hw,c1,c,keyK,firstF,inB,nilchk_m m]
   |true=>
    rw[hw]at hp
    rcases cc with c|c|c
    ·refine⟨hh,?_⟩
     rw[lp121_0]
     simp -implicitDefEqProofs [hlt,hg,hp,hw,c1,c,keyK,firstF,inB,nilchk_m m,w1,ih]
    ·by_cases hb:x.B.n=0
     ·refine⟨hh,?_⟩
      rw[lp121_0]
      simp -implicitDefEqProofs [hlt,hg,hp,hw,c1,c,hb,keyK,firstF,inB,nilchk_m m,w1,ih]
     ·refine⟨[.arr [x.v]],?_⟩
      rw[lp121_0]
      simp -implicitDefEqProofs [hlt,hg,hp,hw,c1,c,hb,keyK,firstF,inB,nilchk_m m]
    ·cases looks with
     |false=>
      refine⟨[.arr [x.v]],?_⟩
      rw[lp121_0]
      simp -implicitDefEqProofs [hlt,hg,hp,hw,c1,c,keyK,firstF,inB,nilchk_m m]
     |true=>
      refine⟨hh,?_⟩
      rw[lp121_0]
      simp -implicitDefEqProofs [hlt,hg,hp,hw,c1,c,keyK,firstF,inB,nilchk_m m,w1,ih]
  ·have hp:=part510 m x hm
   simp only[Bool.not_eq_true]at c1
   refine⟨[.arr [x.v]],?_⟩
   rw[lp121_0]
   simp -implicitDefEqProofs [hlt,hg,hp,c1,keyK,firstF,inB,nilchk_m m]
def keyE(m:Image)(l:List Key)(looks:Bool):Int:=
 if 4<l.length then 2 else if firstF (keyK m looks) l=0 then wantE (keyW m l 0).isSome 9 else firstF (keyK m looks) l
theorem key121(m:Image)(hm:Clo m)(l:GL Key)(looks:Bool):callRO vp 121 [chkV m,GL.v 3 Key.v l,.bool looks]=some (.int .i64 (keyE m l.l looks)):=by
 have hle:=l.le
 obtain⟨hh,h⟩:=loop121 m hm looks l l.l 0 (by omega) (by omega) rfl
 have hk:=key490 m l hm
 rw[callRO_K fn121]
 by_cases h4:4<l.l.length
 ·have h4':(4:Int)<l.l.length:=by omega
  simp -implicitDefEqProofs [h4,h4',keyE]
 ·have h4': ¬(4:Int)<l.l.length:=by omega
  by_cases h0:firstF (keyK m looks) l.l=0
  ·rw[if_pos h0]at h
   simp -implicitDefEqProofs [h4,h4',h,h0,keyE,hk,nilchk_m m]
  ·rw[if_neg h0]at h
   simp -implicitDefEqProofs [h4,h4',h,h0,keyE]
def oneE(m:Image)(x:Case)(w:Int):Int:=
 if x.Value.good=true∧x.Mask.good=true∧x.Value.W.n=w∧x.Mask.W.n=w then
  firstE [wantE ((andV x.Value x.Mask).1.same x.Value) 14,nextE m x.Next.n]else 9
theorem one131(m:Image)(x:Case)(w:Int):callRO vp 131 [chkV m,x.v,.int .i64 w]=some (.int .i64 (oneE m x w)):=by
 have hn:=next127 m x.Next.n
 rw[callRO_K fn131]
 by_cases h1:x.Value.good=true
 ·by_cases h2:x.Mask.good=true
  ·by_cases h3:x.Value.W.n=w
   ·by_cases h4:x.Mask.W.n=w
    ·have h3':(x.Value.W.n=w)=True:=eq_true h3
     have h4':(x.Mask.W.n=w)=True:=eq_true h4
     simp -implicitDefEqProofs [h1,h2,h3',h4',oneE,hn,pureOp]
    ·simp -implicitDefEqProofs [h1,h2,h3,h4,oneE]
   ·simp -implicitDefEqProofs [h1,h2,h3,oneE]
  ·simp -implicitDefEqProofs [h1,h2,oneE]
 ·simp -implicitDefEqProofs [h1,oneE]
def stA(m:Image)(i:Int)(s:State):Int:=firstE [titledE (nStates m) i,wantE (decide ((s.Exts.l.length:Int)≤4)) 2]
def stB(m:Image)(s:State)(t:Bool):Int:=firstE [keyE m s.Keys.l true,wantE (decide ((s.Cases.l.length:Int)≤8)) 2,wantE t 4]
def stT(s:State):Bool:=if s.Cases.l.length=0 then true else decide (0<s.Keys.l.length)
def stO(m:Image)(s:State):Int:=firstF (fun x=>oneE m x ((keyW m s.Keys.l 0).getD 0)) s.Cases.l
def stE(m:Image)(i:Int)(s:State)(t:Bool):Int:=
 if stA m i s=0 then(if firstF (extE m) s.Exts.l=0 then(if stB m s t=0 then(if stO m s=0 then nextE m s.Next.n else stO m s)else stB m s t)else firstF (extE m) s.Exts.l)else stA m i s
def stateE(m:Image)(i:Int):Int:=match getI m.States.l i with|none=>0|some s=>stE m i s (stT s)
theorem loop137_1(m:Image)(hm:Clo m)(hI:Deep m)(s:State)(l:GL Ext): ∀(r:List Ext) (k:Int),0≤k→k≤l.l.length→l.l.drop k.toNat=r→∃hh,(orc vp).loop 0 [2,5,38,39,40] L137_1 [(2,.ptr 0 1 0 0),(5,.ptr 1 1 0 0),(38,GL.v 2 Ext.v l),(39,.int .i64 l.l.length),(40,.int .i64 k)] [.arr [chkV m],.arr [s.v]]=
 (if firstF (extE m) r=0 then some (.brk 0,[(2,.ptr 0 1 0 0),(5,.ptr 1 1 0 0),(38,GL.v 2 Ext.v l),(39,.int .i64 l.l.length),(40,.int .i64 l.l.length),(41,.bool false)],[.arr [chkV m],.arr [s.v]])
  else some (.ret,[(4,.int .i64 (firstF (extE m) r))],hh)):=by
 have hle:=l.le
 intro r
 induction r with
 |nil=>
  intro k hk hkl hd
  have hlt: ¬k<l.l.length:=by have:=drop_nil hk hd;omega
  have he:k=l.l.length:=by have:=drop_nil hk hd;omega
  refine⟨[],?_⟩
  rw[lp137_1]
  simp -implicitDefEqProofs [hlt,he,firstF]
 |cons x r ih=>
  intro k hk hkl hd
  obtain⟨hg,hlt,hd'⟩:=drop_cons hk hd
  have w1:IntKind.i64.wrap (k+1)=k+1:=wrap64 (by omega) (by omega)
  obtain⟨hh,ih⟩:=ih (k+1) (by omega) (by omega) hd'
  have he:=ext117 m hm hI x
  by_cases h0:extE m x=0
  ·refine⟨hh,?_⟩
   rw[lp137_1]
   simp -implicitDefEqProofs [hlt,hg,he,h0,firstF,w1,ih]
  ·refine⟨[.arr [chkV m],.arr [s.v],.arr [x.v]],?_⟩
   rw[lp137_1]
   simp -implicitDefEqProofs [hlt,hg,he,h0,firstF]
theorem loop137_0(m:Image)(w:Int)(s:State)(l:GL Case): ∀(r:List Case) (k:Int),0≤k→k≤l.l.length→l.l.drop k.toNat=r→∃hh,(orc vp).loop 0 [2,5,11,87,88,89] L137_0 [(2,.ptr 0 1 0 0),(5,.ptr 1 1 0 0),(11,.int .i64 w),(87,GL.v 7 Case.v l),(88,.int .i64 l.l.length),(89,.int .i64 k)] [.arr [chkV m],.arr [s.v]]=
 (if firstF (fun x=>oneE m x w) r=0 then some (.brk 2,[(2,.ptr 0 1 0 0),(5,.ptr 1 1 0 0),(11,.int .i64 w),(87,GL.v 7 Case.v l),(88,.int .i64 l.l.length),(89,.int .i64 l.l.length),(90,.bool false)],[.arr [chkV m],.arr [s.v]])
  else some (.ret,[(4,.int .i64 (firstF (fun x=>oneE m x w) r))],hh)):=by
 have hle:=l.le
 intro r
 induction r with
 |nil=>
  intro k hk hkl hd
  have hlt: ¬k<l.l.length:=by have:=drop_nil hk hd;omega
  have he:k=l.l.length:=by have:=drop_nil hk hd;omega
  refine⟨[],?_⟩
  rw[lp137_0]
  simp -implicitDefEqProofs [hlt,he,firstF]
 |cons x r ih=>
  intro k hk hkl hd
  obtain⟨hg,hlt,hd'⟩:=drop_cons hk hd
  have w1:IntKind.i64.wrap (k+1)=k+1:=wrap64 (by omega) (by omega)
  obtain⟨hh,ih⟩:=ih (k+1) (by omega) (by omega) hd'
  have he:=one131 m x w
  by_cases h0:oneE m x w=0
  ·refine⟨hh,?_⟩
   rw[lp137_0]
   simp -implicitDefEqProofs [hlt,hg,he,h0,firstF,w1,ih]
  ·refine⟨[.arr [chkV m],.arr [s.v],.arr [x.v]],?_⟩
   rw[lp137_0]
   simp -implicitDefEqProofs [hlt,hg,he,h0,firstF]
theorem cl_states{m:Image}(hm:Clo m):closedB (GL.v 5 State.v m.States)=true:=by
 simp only[Clo,Image.closed,Bool.and_eq_true]at hm;simp[hm]
set_option maxHeartbeats 4000000 in
set_option maxRecDepth 100000 in
theorem state137(m:Image)(hm:Clo m)(hI:Deep m)(hs:Small m)(i:Int){s:State}(h:getI m.States.l i=some s):callRO vp 137 [chkV m,.int .i64 i]=some (.int .i64 (stateE m i)):=by
 have hc:=closed_get (cl_states hm) h
 simp only[State.closed,Bool.and_eq_true]at hc
 have ht:=titled138 m hs i h
 have hk:=key121 m hm s.Keys true
 have hw:=key490 m s.Keys hm
 have hn:=next127 m s.Next.n
 obtain⟨h1,l1⟩:=loop137_1 m hm hI s s.Exts s.Exts.l 0 (by omega) (by omega) rfl
 obtain⟨h2,l2⟩:=loop137_0 m ((keyW m s.Keys.l 0).getD 0) s s.Cases s.Cases.l 0 (by omega) (by omega) rfl
 have hr:stateE m i=stE m i s (stT s):=by simp only[stateE,h]
 rw[callRO_K fn137,hr]
 by_cases c1:stA m i s=0
 ·by_cases c2:firstF (extE m) s.Exts.l=0
  ·rw[if_pos c2]at l1
   have ho:stO m s=firstF (fun x=>oneE m x ((keyW m s.Keys.l 0).getD 0)) s.Cases.l:=rfl
   rw[←ho]at l2
   unfold stA at c1
   by_cases z1:s.Cases.l=[]
   ·have z2:stT s=true:=by unfold stT;rw[if_pos (by rw[z1];rfl)]
    have z1':(s.Cases.l=[])=True:=eq_true z1
    rw[z2]
    by_cases c3:stB m s true=0
    ·unfold stB at c3
     by_cases c4:stO m s=0
     ·rw[if_pos c4]at l2
      simp -implicitDefEqProofs [h,hc,pureOp,ht,l1,hk,hw,hn,l2,stE,stA,stB,c1,c2,c3,c4,z1']
     ·rw[if_neg c4]at l2
      simp -implicitDefEqProofs [h,hc,pureOp,ht,l1,hk,hw,hn,l2,stE,stA,stB,c1,c2,c3,c4,z1']
    ·unfold stB at c3
     simp -implicitDefEqProofs [h,hc,pureOp,ht,l1,hk,hw,hn,stE,stA,stB,c1,c2,c3,z1']
   ·have z1':(s.Cases.l=[])=False:=eq_false z1
    have z0: ¬s.Cases.l.length=0:=by simpa using z1
    by_cases zk:0<s.Keys.l.length
    ·have z2:stT s=true:=by unfold stT;rw[if_neg z0];simpa using zk
     have zk1:(0<s.Keys.l.length)=True:=eq_true zk
     have zk2:((0:Int)<s.Keys.l.length)=True:=eq_true (by omega)
     rw[z2]
     by_cases c3:stB m s true=0
     ·unfold stB at c3
      by_cases c4:stO m s=0
      ·rw[if_pos c4]at l2
       simp -implicitDefEqProofs [h,hc,pureOp,ht,l1,hk,hw,hn,l2,stE,stA,stB,c1,c2,c3,c4,z1',zk1,zk2]
      ·rw[if_neg c4]at l2
       simp -implicitDefEqProofs [h,hc,pureOp,ht,l1,hk,hw,hn,l2,stE,stA,stB,c1,c2,c3,c4,z1',zk1,zk2]
     ·unfold stB at c3
      simp -implicitDefEqProofs [h,hc,pureOp,ht,l1,hk,hw,hn,stE,stA,stB,c1,c2,c3,z1',zk1,zk2]
    ·have z2:stT s=false:=by unfold stT;rw[if_neg z0];simpa using zk
     have zk1:(0<s.Keys.l.length)=False:=eq_false zk
     have zk2:((0:Int)<s.Keys.l.length)=False:=eq_false (by omega)
     rw[z2]
     by_cases c3:stB m s false=0
     ·unfold stB at c3
      by_cases c4:stO m s=0
      ·rw[if_pos c4]at l2
       simp -implicitDefEqProofs [h,hc,pureOp,ht,l1,hk,hw,hn,l2,stE,stA,stB,c1,c2,c3,c4,z1',zk1,zk2]
      ·rw[if_neg c4]at l2
       simp -implicitDefEqProofs [h,hc,pureOp,ht,l1,hk,hw,hn,l2,stE,stA,stB,c1,c2,c3,c4,z1',zk1,zk2]
     ·unfold stB at c3
      simp -implicitDefEqProofs [h,hc,pureOp,ht,l1,hk,hw,hn,stE,stA,stB,c1,c2,c3,z1',zk1,zk2]
  ·rw[if_neg c2]at l1
   unfold stA at c1
   simp -implicitDefEqProofs [h,hc,pureOp,ht,l1,stE,stA,c1,c2]
 ·unfold stA at c1
  simp -implicitDefEqProofs [h,hc,pureOp,ht,stE,stA,c1]
end Go.VE.Un
namespace Go.VE.Un
open Go.VE
def cellB(m:Image)(x:Ins)(p:Int):Bool:=
 if x.Op.n=2∨x.Op.n=23 then(metaW m x.A.n).isSome else if x.Op.n=3 then decide (x.A.n<p)
 else if x.Op.n=5∨x.Op.n=24 then decide (x.A.n<(m.Regs.l.length:Int))else if x.Op.n=29 then decide (x.A.n<(m.Counters.l.length:Int))else decide (x.A.n<(m.Meters.l.length:Int))
theorem nilchk_c(m:Image)(fr:Fr)(x:VOpd)(e:opd fr x=chkV m):pureOp fr (.nilchk x)=some (chkV m):=by simp only[pureOp,e]
theorem cell113(m:Image)(x:Ins)(p:Int)(h:x.Op.n=2∨x.Op.n=23∨x.Op.n=3∨x.Op.n=5∨x.Op.n=24∨x.Op.n=29∨x.Op.n=30):
 callRO vp 113 [chkV m,.agg [.int .i64 x.Op.n,.int .i64 x.A.n],.int .i64 p]=some (.bool (cellB m x p)):=by
 have hm:=meta491 m x.A.n x.A.lo x.A.hi
 rw[callRO_K fn113]
 rcases h with h|h|h|h|h|h|h<;>simp -implicitDefEqProofs [h,hm,nilchk_c m,cellB]
def refersB(m:Image)(x:Ins)(p:Int):Bool:=
 match(getI kinds x.Op.n).getD 0 with
 |281=>(field m x.A.n x.B.n).isSome
 |283=>(slot m x.A.n).isSome
 |276=>(slot m x.A.n).isSome
 |277=>(stacked m x.A.n).isSome
 |275=>cellB m x p
 |_=>true
set_option maxHeartbeats 4000000 in
theorem refers134(m:Image)(hm:Clo m)(x:Ins)(h:mayC x=0)(ps:GL I64):callRO vp 134 [chkV m,stepV x,GL.v 1 I64.v ps]=some (.bool (refersB m x ps.l.length)):=by
 obtain⟨h0,h1⟩:=mayC_op h
 have hf:=field489 m x.A.n x.B.n hm x.A.hi
 have hsl:=slot493 m x.A.n hm x.A.hi
 have hz:=slot_cl hm x.A.n
 have hst: ∃a b,callRO vp 494 [m.v,.int .i64 x.A.n]=some (.tup [.int .i64 a,.int .i64 b,.bool (stacked m x.A.n).isSome]):=by
  have:=stacked494 m x.A.n
  cases hs:stacked m x.A.n with
  |none=>rw[hs]at this;exact⟨0,0,this⟩
  |some q=>obtain⟨a,b⟩:=q;rw[hs]at this;exact⟨a,b,this⟩
 obtain⟨sa,sb,hst⟩:=hst
 have hc:(x.Op.n=2∨x.Op.n=23∨x.Op.n=3∨x.Op.n=5∨x.Op.n=24∨x.Op.n=29∨x.Op.n=30)→callRO vp 113 [chkV m,.agg [.int .i64 x.Op.n,.int .i64 x.A.n],.int .i64 ps.l.length]=some (.bool (cellB m x ps.l.length)):=cell113 m x ps.l.length
 rw[callRO_K fn134]
 generalize he:x.Op.n=o at h0 h1
 rcases ops_cases h0 h1 with rfl|rfl|rfl|rfl|rfl|rfl|rfl|rfl|rfl|rfl|rfl|rfl|rfl|rfl|rfl|rfl|rfl|rfl|rfl|rfl|rfl|rfl|rfl|rfl|rfl|rfl|rfl|rfl|rfl|rfl|rfl|rfl|rfl|rfl|rfl
 all_goals
  rw[he]at hc
  simp -implicitDefEqProofs at hc
  simp -implicitDefEqProofs [he,stepV,getI,kinds,refersB,hf,hsl,hz,hst,hc,hdr0,nilchk_c m]
def stepE(m:Image)(p n i:Int)(x:Ins):Int:=
 if refersB m x p=false then 5 else match targetB x with|some to=>wantE (inB to (i+1) n) 12|none=>0
def stepsE(m:Image)(p n:Int):List Ins→Int→Int
 |[],_=>0
 |x::r,i=>if stepE m p n i x=0 then stepsE m p n r (i+1)else stepE m p n i x
def codeF(m:Image)(l:List Ins)(p:Int):Int:=match allC l with|some (_,e)=>e|none=>stepsE m p l.length l 0
theorem codeE_none: ∀(l:List Ins) (i:Int),codeE l i=none→∀x∈l,mayC x=0
 |[],_,_,x,hx=>by simp at hx
 |y::r,i,h,x,hx=>by
  simp only[codeE]at h
  split at h
  ·rename_i h0
   rcases List.mem_cons.1 hx with rfl|hx
   ·exact h0
   ·exact codeE_none r _ h x hx
  ·simp at h
theorem codeE_some: ∀(l:List Ins) (i:Int) {j e:Int},codeE l i=some (j,e)→e≠0
 |[],_,_,_,h=>by simp[codeE]at h
 |y::r,i,j,e,h=>by
  simp only[codeE]at h
  split at h
  ·exact codeE_some r _ h
  ·rename_i h0;simp only[Option.some.injEq,Prod.mk.injEq]at h;rw[←h.2];exact h0
theorem allC_none{l:List Ins}(h:allC l=none):l.length≤64∧∀x∈l,mayC x=0:=by
 unfold allC at h
 split at h
 ·simp at h
 ·rename_i hc
  split at h
  ·simp at h
  ·rename_i hl
   have:l.length≤64:=by omega
   rw[List.take_of_length_le this]at hc
   exact⟨this,codeE_none l 0 hc⟩
theorem allC_some{l:List Ins}{i e:Int}(h:allC l=some (i,e)):e≠0:=by
 unfold allC at h
 split at h
 ·rename_i r hc;obtain⟨a,b⟩:=r;simp only[Option.some.injEq,Prod.mk.injEq]at h;rw[←h.2];exact codeE_some _ _ hc
 ·split at h
  ·simp only[Option.some.injEq,Prod.mk.injEq]at h;omega
  ·simp at h
@[simp] theorem step_ld(x:Ins):ldc (stepV x) false 1 0=some (stepV x):=by
  unfold stepV;split<;>rfl
theorem loop114(m:Image)(hm:Clo m)(l:GL Ins)(ps:GL I64)(hl: ∀x∈l.l,mayC x=0): ∀(r:List Ins) (k:Int),0≤k→k≤l.l.length→l.l.drop k.toNat=r→(orc vp).loop 0 [0,1,2,23,24,25] L114_0 [(0,chkV m),(1,GL.v 6 Ins.v l),(2,GL.v 1 I64.v ps),(23,.sl 1 (l.l.map stepV) .perm),(24,.int .i64 l.l.length),(25,.int .i64 k)] []=
 (if stepsE m ps.l.length l.l.length r k=0 then some (.brk 0,[(0,chkV m),(1,GL.v 6 Ins.v l),(2,GL.v 1 I64.v ps),(23,.sl 1 (l.l.map stepV) .perm),(24,.int .i64 l.l.length),(25,.int .i64 l.l.length),(26,.bool false)],[])
  else some (.ret,[(6,.int .i64 (stepsE m ps.l.length l.l.length r k))],[])):=by
 have hle:=l.le
 intro r
 induction r with
 |nil=>
  intro k hk hkl hd
  have hlt: ¬k<l.l.length:=by have:=drop_nil hk hd;omega
  have he:k=l.l.length:=by have:=drop_nil hk hd;omega
  rw[lp114_0]
  simp -implicitDefEqProofs [hlt,he,stepsE]
 |cons x r ih=>
  intro k hk hkl hd
  obtain⟨hg,hlt,hd'⟩:=drop_cons hk hd
  have w1:IntKind.i64.wrap (k+1)=k+1:=wrap64 (by omega) (by omega)
  have ih:=ih (k+1) (by omega) (by omega) hd'
  have h0:=hl x (List.mem_of_getElem? (by rw[getI,if_pos hk]at hg;exact hg))
  have hr:=refers134 m hm x h0 ps
  have ht:=target427 x h0
  rw[lp114_0]
  by_cases c1:refersB m x ps.l.length=true
  ·cases c2:targetB x with
   |none=>
    rw[c2]at ht
    simp -implicitDefEqProofs [hlt,hg,hr,ht,c1,c2,w1,ih,stepsE,stepE]
   |some to=>
    rw[c2]at ht
    by_cases c3:(decide (k+1≤to)&&decide (to≤(l.l.length:Int)))=true
    ·simp -implicitDefEqProofs [hlt,hg,hr,ht,c1,c2,c3,w1,ih,stepsE,stepE,wantE,inB]
    ·simp only[Bool.not_eq_true]at c3
     simp -implicitDefEqProofs [hlt,hg,hr,ht,c1,c2,c3,w1,stepsE,stepE,wantE,inB]
  ·simp only[Bool.not_eq_true]at c1
   simp -implicitDefEqProofs [hlt,hg,hr,c1,stepsE,stepE]
theorem code114(m:Image)(hm:Clo m)(l:GL Ins)(ps:GL I64):callRO vp 114 [chkV m,GL.v 6 Ins.v l,GL.v 1 I64.v ps]=some (.int .i64 (codeF m l.l ps.l.length)):=by
 have ha:=all422 l
 rw[callRO_K fn114]
 cases hc:allC l.l with
 |some p=>
  obtain⟨i,e⟩:=p
  have he:=allC_some hc
  rw[hc]at ha
  simp -implicitDefEqProofs [ha,he,codeF,hc]
 |none=>
  rw[hc]at ha
  obtain⟨_,h2⟩:=allC_none hc
  have hlp:=loop114 m hm l ps h2 l.l 0 (by omega) (by omega) rfl
  by_cases c:stepsE m ps.l.length l.l.length l.l 0=0
  ·rw[if_pos c]at hlp
   simp -implicitDefEqProofs [ha,hlp,codeF,hc,c]
  ·rw[if_neg c]at hlp
   simp -implicitDefEqProofs [ha,hlp,codeF,hc,c]
end Go.VE.Un
namespace Go.VE.Un
open Go.VE
def parE(w:I64):Int:=if inB w.n 1 128=true then 0 else 9
theorem loop109(m:Image)(a:Action)(l:GL I64): ∀(r:List I64) (k:Int),0≤k→k≤l.l.length→l.l.drop k.toNat=r→∃hh,(orc vp).loop 0 [2,5,31,32,33] L109_0 [(2,.ptr 0 1 0 0),(5,.ptr 1 1 0 0),(31,GL.v 1 I64.v l),(32,.int .i64 l.l.length),(33,.int .i64 k)] [.arr [chkV m],.arr [a.v]]=
 (if firstF parE r=0 then some (.brk 0,[(2,.ptr 0 1 0 0),(5,.ptr 1 1 0 0),(31,GL.v 1 I64.v l),(32,.int .i64 l.l.length),(33,.int .i64 l.l.length),(34,.bool false)],[.arr [chkV m],.arr [a.v]])
  else some (.ret,[(4,.int .i64 (firstF parE r))],hh)):=by
 have hle:=l.le
 intro r
 induction r with
 |nil=>
  intro k hk hkl hd
  have hlt: ¬k<l.l.length:=by have:=drop_nil hk hd;omega
  have he:k=l.l.length:=by have:=drop_nil hk hd;omega
  refine⟨[],?_⟩
  rw[lp109_0]
  simp -implicitDefEqProofs [hlt,he,firstF]
 |cons x r ih=>
  intro k hk hkl hd
  obtain⟨hg,hlt,hd'⟩:=drop_cons hk hd
  have w1:IntKind.i64.wrap (k+1)=k+1:=wrap64 (by omega) (by omega)
  obtain⟨hh,ih⟩:=ih (k+1) (by omega) (by omega) hd'
  by_cases h0:(decide (1≤x.n)&&decide (x.n≤128))=true
  ·refine⟨hh,?_⟩
   rw[lp109_0]
   simp -implicitDefEqProofs [hlt,hg,h0,firstF,parE,inB,w1,ih]
  ·simp only[Bool.not_eq_true]at h0
   refine⟨[.arr [chkV m],.arr [a.v]],?_⟩
   rw[lp109_0]
   simp -implicitDefEqProofs [hlt,hg,h0,firstF,parE,inB]
theorem cl_actions{m:Image}(hm:Clo m):closedB (GL.v 3 Action.v m.Actions)=true:=by
 simp only[Clo,Image.closed,Bool.and_eq_true]at hm;simp[hm]
def actA(m:Image)(i:Int)(a:Action):Int:=firstE [titledE (nActions m) i,wantE (decide ((a.Params.l.length:Int)≤8)) 2]
def actionE(m:Image)(i:Int):Int:=match getI m.Actions.l i with
 |none=>0
 |some a=>if actA m i a=0 then(if firstF parE a.Params.l=0 then codeF m a.Code.l a.Params.l.length else firstF parE a.Params.l)else actA m i a
set_option maxHeartbeats 4000000 in
set_option maxRecDepth 100000 in
theorem action109(m:Image)(hm:Clo m)(hs:Small m)(i:Int){a:Action}(h:getI m.Actions.l i=some a):callRO vp 109 [chkV m,.int .i64 i]=some (.int .i64 (actionE m i)):=by
 have hc:=closed_get (cl_actions hm) h
 simp only[Action.closed,Bool.and_eq_true]at hc
 have ht:=titled110 m hs i h
 have hcd:=code114 m hm a.Code a.Params
 obtain⟨h1,l1⟩:=loop109 m a a.Params a.Params.l 0 (by omega) (by omega) rfl
 rw[callRO_K fn109]
 by_cases c1:actA m i a=0
 ·unfold actA at c1
  by_cases c2:firstF parE a.Params.l=0
  ·rw[if_pos c2]at l1
   simp -implicitDefEqProofs [h,hc,pureOp,ht,l1,hcd,actionE,actA,c1,c2]
  ·rw[if_neg c2]at l1
   simp -implicitDefEqProofs [h,hc,pureOp,ht,l1,actionE,actA,c1,c2]
 ·unfold actA at c1
  simp -implicitDefEqProofs [h,hc,pureOp,ht,actionE,actA,c1]
def argsR:List Vec→List I64→Int
 |[],_=>0
 |_,[]=>0
 |v::r,p::q=>if v.good=true∧v.W.n=p.n then argsR r q else 9
theorem loop111(ps:GL I64)(l:GL Vec)(hl:l.l.length=ps.l.length): ∀(r:List Vec) (k:Int) (q:List I64),0≤k→k≤l.l.length→l.l.drop k.toNat=r→ps.l.drop k.toNat=q→∃hh,(orc vp).loop 0 [7,24,25,26] L111_0 [(7,GL.v 1 I64.v ps),(24,GL.v 3 Vec.v l),(25,.int .i64 l.l.length),(26,.int .i64 k)] []=
 (if argsR r q=0 then some (.brk 0,[(7,GL.v 1 I64.v ps),(24,GL.v 3 Vec.v l),(25,.int .i64 l.l.length),(26,.int .i64 l.l.length),(27,.bool false)],[])
  else some (.ret,[(6,.int .i64 9)],hh)):=by
 have hle:=l.le
 intro r
 induction r with
 |nil=>
  intro k q hk hkl hd hq
  have hlt: ¬k<l.l.length:=by have:=drop_nil hk hd;omega
  have he:k=l.l.length:=by have:=drop_nil hk hd;omega
  refine⟨[],?_⟩
  rw[lp111_0]
  simp -implicitDefEqProofs [hlt,he,argsR]
 |cons x r ih=>
  intro k q hk hkl hd hq
  obtain⟨hg,hlt,hd'⟩:=drop_cons hk hd
  cases q with
  |nil=>have:=drop_nil hk hq;omega
  |cons p q=>
   obtain⟨hg2,_,hq'⟩:=drop_cons hk hq
   have w1:IntKind.i64.wrap (k+1)=k+1:=wrap64 (by omega) (by omega)
   obtain⟨hh,ih⟩:=ih (k+1) q (by omega) (by omega) hd' hq'
   by_cases h0:x.good=true
   ·by_cases h1:x.W.n=p.n
    ·have h1':(x.W.n=p.n)=True:=eq_true h1
     refine⟨hh,?_⟩
     rw[lp111_0]
     simp -implicitDefEqProofs [hlt,hg,hg2,h0,h1',argsR,w1,ih]
    ·refine⟨[.arr [x.v]],?_⟩
     rw[lp111_0]
     simp -implicitDefEqProofs [hlt,hg,hg2,h0,h1,argsR]
   ·refine⟨[.arr [x.v]],?_⟩
    rw[lp111_0]
    simp -implicitDefEqProofs [hlt,hg,h0,argsR]
def argsE(m:Image)(i:Int)(l:List Vec):Int:=match getI m.Actions.l i with
 |none=>0
 |some a=>if l.length=a.Params.l.length then argsR l a.Params.l else 2
theorem argsR_cases: ∀(l:List Vec) (q:List I64),argsR l q=0∨argsR l q=9
 |[],_=>.inl (by simp[argsR])
 |_::_,[]=>.inl (by simp[argsR])
 |v::r,p::q=>by
  simp only[argsR];split
  ·exact argsR_cases r q
  ·exact .inr rfl
theorem args111(m:Image)(i:Int){a:Action}(h:getI m.Actions.l i=some a)(l:GL Vec):callRO vp 111 [chkV m,.int .i64 i,GL.v 3 Vec.v l]=some (.int .i64 (argsE m i l.l)):=by
 rw[callRO_K fn111]
 by_cases hl:l.l.length=a.Params.l.length
 ·obtain⟨hh,h1⟩:=loop111 a.Params l hl l.l 0 a.Params.l (by omega) (by omega) rfl rfl
  have hl':((l.l.length:Int)=a.Params.l.length)=True:=eq_true (by omega)
  have hlp:(l.l.length=a.Params.l.length)=True:=eq_true hl
  rcases argsR_cases l.l a.Params.l with c|c
  ·rw[if_pos c]at h1
   simp -implicitDefEqProofs [h,nilchk_m m,hl',hlp,h1,argsE,c]
  ·rw[if_neg (by omega)]at h1
   simp -implicitDefEqProofs [h,nilchk_m m,hl',hlp,h1,argsE,c]
 ·have hl':((l.l.length:Int)=a.Params.l.length)=False:=eq_false (by omega)
  simp -implicitDefEqProofs [h,nilchk_m m,hl',hl,argsE]
def callR(m:Image)(l:List I64):List I64→Int→Int
 |[],_=>0
 |x::r,i=>if inB x.n 0 (m.Actions.l.length-1)=false then 5 else if(x.n∈(l.take i.toNat).map (·.n))then 6 else callR m l r (i+1)
theorem loop112(m:Image)(l:GL I64): ∀(r:List I64) (k:Int),0≤k→k≤l.l.length→l.l.drop k.toNat=r→(orc vp).loop 0 [0,1,10,11,12] L112_0 [(0,chkV m),(1,GL.v 1 I64.v l),(10,GL.v 1 I64.v l),(11,.int .i64 l.l.length),(12,.int .i64 k)] []=
 (if callR m l.l r k=0 then some (.brk 0,[(0,chkV m),(1,GL.v 1 I64.v l),(10,GL.v 1 I64.v l),(11,.int .i64 l.l.length),(12,.int .i64 l.l.length),(13,.bool false)],[])
  else some (.ret,[(4,.int .i64 (callR m l.l r k))],[])):=by
 have hle:=l.le
 have hla:=m.Actions.le
 have w0:IntKind.i64.wrap (m.Actions.l.length-1)=m.Actions.l.length-1:=wrap64 (by omega) (by omega)
 intro r
 induction r with
 |nil=>
  intro k hk hkl hd
  have hlt: ¬k<l.l.length:=by have:=drop_nil hk hd;omega
  have he:k=l.l.length:=by have:=drop_nil hk hd;omega
  rw[lp112_0]
  simp -implicitDefEqProofs [hlt,he,callR]
 |cons x r ih=>
  intro k hk hkl hd
  obtain⟨hg,hlt,hd'⟩:=drop_cons hk hd
  have w1:IntKind.i64.wrap (k+1)=k+1:=wrap64 (by omega) (by omega)
  have ih:=ih (k+1) (by omega) (by omega) hd'
  have hsl:=GL.slice_hi 1 I64.v l .i64 k (by omega) hk (by omega)
  have hcn:=contains1169 x.n (l.take k)
  rw[GL.take_l]at hcn
  rw[lp112_0]
  by_cases c1:(decide (0≤x.n)&&decide (x.n≤(m.Actions.l.length:Int)-1))=true
  ·by_cases c2:x.n∈(l.l.take k.toNat).map (·.n)
   ·rw[decide_eq_true c2]at hcn
    have hr:callR m l.l (x::r) k=6:=by
     simp only[callR,inB,c1];rw[if_neg (by simp),if_pos c2]
    rw[hr]
    simp -implicitDefEqProofs [hlt,hg,nilchk_m m,w0,c1,hsl,hcn]
   ·rw[decide_eq_false c2]at hcn
    have hr:callR m l.l (x::r) k=callR m l.l r (k+1):=by
     simp only[callR,inB,c1];rw[if_neg (by simp),if_neg c2]
    rw[hr]
    simp -implicitDefEqProofs [hlt,hg,nilchk_m m,w0,w1,c1,hsl,hcn,ih]
  ·simp only[Bool.not_eq_true]at c1
   have hr:callR m l.l (x::r) k=5:=by
    simp only[callR,inB,c1];rw[if_pos trivial]
   rw[hr]
   simp -implicitDefEqProofs [hlt,hg,nilchk_m m,w0,c1]
def callsE(m:Image)(l:List I64):Int:=if 8<l.length then 2 else if callR m l l 0=0 then wantE (decide (0<(l.length:Int))) 5 else callR m l l 0
theorem calls112(m:Image)(l:GL I64):callRO vp 112 [chkV m,GL.v 1 I64.v l]=some (.int .i64 (callsE m l.l)):=by
 have h:=loop112 m l l.l 0 (by omega) (by omega) rfl
 rw[callRO_K fn112]
 by_cases h8:8<l.l.length
 ·have h8':(8:Int)<l.l.length:=by omega
  simp -implicitDefEqProofs [h8,h8',callsE]
 ·have h8': ¬(8:Int)<l.l.length:=by omega
  by_cases c:callR m l.l l.l 0=0
  ·rw[if_pos c]at h
   simp -implicitDefEqProofs [h8,h8',h,c,callsE]
  ·rw[if_neg c]at h
   simp -implicitDefEqProofs [h8,h8',h,c,callsE]
end Go.VE.Un
namespace Go.VE.Un
open Go.VE
def nodeNm(m:Image)(x:Node):Bool:=
 if x.Kind.n=0 then inB x.A.n 0 (m.Tables.l.length-1)else if x.Kind.n=2 then inB x.A.n 0 (m.Actions.l.length-1)else if x.Kind.n=1 then decide (x.A.n=0)else(slot m x.A.n).isSome
theorem names126(m:Image)(hm:Clo m)(x:Node):callRO vp 126 [chkV m,x.v]=some (.bool (nodeNm m x)):=by
 have h1:=m.Tables.le
 have h2:=m.Actions.le
 have w1:IntKind.i64.wrap (m.Tables.l.length-1)=m.Tables.l.length-1:=wrap64 (by omega) (by omega)
 have w2:IntKind.i64.wrap (m.Actions.l.length-1)=m.Actions.l.length-1:=wrap64 (by omega) (by omega)
 have hsl:=slot493 m x.A.n hm x.A.hi
 have hz:=slot_cl hm x.A.n
 rw[callRO_K fn126]
 by_cases c0:x.Kind.n=0
 ·simp -implicitDefEqProofs [c0,nilchk_m m,w1,nodeNm,inB]
 ·by_cases c2:x.Kind.n=2
  ·simp -implicitDefEqProofs [c2,nilchk_m m,w2,nodeNm,inB]
  ·by_cases c1:x.Kind.n=1
   ·simp -implicitDefEqProofs [c1,nilchk_m m,nodeNm]
   ·simp -implicitDefEqProofs [c0,c1,c2,nilchk_m m,nodeNm,hsl,hz,hdr0]
def nodA(m:Image)(x:Node):Int:=firstE [wantE (decide (0≤x.Kind.n)&&decide (x.Kind.n≤3)) 10,wantE (nodeNm m x) 5]
def nodB(m:Image)(x:Node):Int:=if x.Kind.n=1 then codeF m x.Code.l 0 else wantE x.Code.l.isEmpty 4
def nodC(m:Image)(x:Node)(i n:Int):Int:=if x.Kind.n=2 then firstE [argsE m x.A.n x.Args.l,wantE (decide (x.No.n=0)) 4]else firstE [wantE x.Args.l.isEmpty 4,wantE (decide (i+1≤x.No.n)&&decide (x.No.n≤n)) 12]
def nodeE(m:Image)(x:Node)(i n:Int):Int:=
 if nodA m x=0 then(if nodB m x=0 then firstE [nodC m x i n,wantE (decide (i+1≤x.Yes.n)&&decide (x.Yes.n≤n)) 12]else nodB m x)else nodA m x
theorem firstE_0{a b:Int}(h:firstE [a,b]=0):a=0∧b=0:=by
 simp only[firstE]at h;split at h
 ·rename_i h1;split at h
  ·rename_i h2;exact⟨h1,h2⟩
  ·exact⟨h1,h⟩
 ·omega
set_option maxHeartbeats 4000000 in
set_option maxRecDepth 100000 in
theorem node128(m:Image)(hm:Clo m)(x:Node)(i n:Int)(h0:0≤i)(h1:i≤140737488355328):callRO vp 128 [chkV m,x.v,.int .i64 i,.int .i64 n]=some (.int .i64 (nodeE m x i n)):=by
 have w1:IntKind.i64.wrap (i+1)=i+1:=wrap64 (by omega) (by omega)
 have hnm:=names126 m hm x
 have hcd:callRO vp 114 [chkV m,GL.v 6 Ins.v x.Code,.sl 1 [] .nl]=some (.int .i64 (codeF m x.Code.l 0)):=code114 m hm x.Code ⟨[],.nl,by simp⟩
 rw[callRO_K fn128]
 by_cases ca:nodA m x=0
 ·have⟨ca1,ca2⟩:=firstE_0 ca
  have hk:0≤x.Kind.n∧x.Kind.n≤3:=by
   unfold wantE at ca1;split at ca1
   ·rename_i hh;simpa using hh
   ·omega
  have hnb:nodeNm m x=true:=by
   unfold wantE at ca2;split at ca2
   ·assumption
   ·omega
  by_cases k1:x.Kind.n=1
  ·have k1':(x.Kind.n=1)=True:=eq_true k1
   have k2':(x.Kind.n=2)=False:=eq_false (by omega)
   have hb:nodB m x=codeF m x.Code.l 0:=by unfold nodB;rw[if_pos k1]
   by_cases cb:codeF m x.Code.l 0=0
   ·by_cases za:x.Args.l=[]
    ·have za':(x.Args.l=[])=True:=eq_true za
     have ze:x.Args.l.isEmpty=true:=by simp[za]
     unfold nodA at ca
     simp -implicitDefEqProofs [hnm,pureOp,ca,k1',k2',hcd,cb,hb,za',ze,w1,nodeE,nodA,nodC]
    ·have za':(x.Args.l=[])=False:=eq_false za
     have ze:x.Args.l.isEmpty=false:=by simp[za]
     unfold nodA at ca
     simp -implicitDefEqProofs [hnm,pureOp,ca,k1',k2',hcd,cb,hb,za',ze,w1,nodeE,nodA,nodC]
   ·unfold nodA at ca
    simp -implicitDefEqProofs [hnm,pureOp,ca,k1',k2',hcd,cb,hb,nodeE,nodA]
  ·have k1':(x.Kind.n=1)=False:=eq_false k1
   by_cases zc:x.Code.l=[]
   ·have zc':(x.Code.l=[])=True:=eq_true zc
    have hb:nodB m x=0:=by unfold nodB;rw[if_neg k1];simp[zc,wantE]
    have hw:wantE true 4=0:=rfl
    by_cases k2:x.Kind.n=2
    ·have k2':(x.Kind.n=2)=True:=eq_true k2
     have hA: ∃a,getI m.Actions.l x.A.n=some a:=by
      have:=hnb
      unfold nodeNm at this
      rw[if_neg (by omega),if_pos k2]at this
      simp[inB]at this
      rcases getI_cases m.Actions.l x.A.n with⟨a,_,_,hg⟩|⟨hg,_⟩
      ·exact⟨a,hg⟩
      ·omega
     obtain⟨a,hA⟩:=hA
     have har:=args111 m x.A.n hA x.Args
     unfold nodA at ca
     simp -implicitDefEqProofs [hnm,pureOp,ca,k1',k2',zc',hw,hb,har,w1,nodeE,nodA,nodC]
    ·have k2':(x.Kind.n=2)=False:=eq_false k2
     by_cases za:x.Args.l=[]
     ·have za':(x.Args.l=[])=True:=eq_true za
      have ze:x.Args.l.isEmpty=true:=by simp[za]
      unfold nodA at ca
      simp -implicitDefEqProofs [hnm,pureOp,ca,k1',k2',zc',hw,hb,za',ze,w1,nodeE,nodA,nodC]
     ·have za':(x.Args.l=[])=False:=eq_false za
      have ze:x.Args.l.isEmpty=false:=by simp[za]
      unfold nodA at ca
      simp -implicitDefEqProofs [hnm,pureOp,ca,k1',k2',zc',hw,hb,za',ze,w1,nodeE,nodA,nodC]
   ·have zc':(x.Code.l=[])=False:=eq_false zc
    have hb:nodB m x=4:=by unfold nodB;rw[if_neg k1];simp[zc,wantE]
    have hw:wantE false 4=4:=rfl
    unfold nodA at ca
    simp -implicitDefEqProofs [hnm,pureOp,ca,k1',zc',hw,hb,nodeE,nodA]
 ·unfold nodA at ca
  simp -implicitDefEqProofs [hnm,pureOp,ca,nodeE,nodA]
end Go.VE.Un
namespace Go.VE.Un
open Go.VE
def nodesE(m:Image)(l:List Node):Int ×Int:=allE l.length 32 fun i=>match getI l i with|some x=>nodeE m x i l.length|none=>0
theorem node130(m:Image)(hm:Clo m)(l:GL Node)(i:Int){x:Node}(h:getI l.l i=some x):callRO vp 130 [.int .i64 i,.eptr (chkV m) 0 .brw,.eptr (GL.v 6 Node.v l) 0 .brw]=some (.int .i64 (nodeE m x i l.l.length)):=by
 have hle:=l.le
 have hi:0≤i∧i<l.l.length:=by
  rcases getI_cases l.l i with⟨a,h0,h1,_⟩|⟨_,h1⟩
  ·exact⟨h0,h1⟩
  ·rw[h1]at h;simp at h
 have hn:=node128 m hm x i l.l.length hi.1 (by omega)
 rw[callRO_K fn130]
 simp -implicitDefEqProofs [h,hn]
theorem nodes129(m:Image)(hm:Clo m)(l:GL Node):callRO vp 129 [chkV m,GL.v 6 Node.v l]=some (.tup [.int .i64 (nodesE m l.l).1,.int .i64 (nodesE m l.l).2]):=by
 have hle:=l.le
 have ha:=all501 130 [] [.eptr (chkV m) 0 .brw,.eptr (GL.v 6 Node.v l) 0 .brw] fn130 rfl rfl rfl (by simp) l.l.length 32 (by omega) (by omega) (fun i=>match getI l.l i with|some x=>nodeE m x i l.l.length|none=>0) (fun _ i h0 h1=>by
  rcases getI_cases l.l i with⟨x,_,_,hg⟩|⟨hg,_⟩
  ·simp only[hg,List.nil_append];exact node130 m hm l i hg
  ·omega)
 rw[callRO_K fn129]
 simp -implicitDefEqProofs [ha,nodesE]
theorem slot_mem{m:Image}{s:Int}{h:Header}(e:slot m s=some h):h∈m.Headers.l:=by
 simp only[slot,slotH,Option.bind_eq_some_iff]at e
 obtain⟨r,_,hg⟩:=e
 unfold getI at hg;split at hg
 ·exact List.mem_of_getElem? hg
 ·simp at hg
theorem field_slot{m:Image}{s f w:Int}(e:field m s f=some w): ∃h,slot m s=some h:=by
 simp only[field,Option.bind_eq_some_iff]at e
 exact⟨e.choose,e.choose_spec.1⟩
theorem offB_nn(h:Header)(f:Int):0≤(offB h f).getD 0:=by
 unfold offB
 split
 ·rename_i hc
  obtain⟨_,_,_,g3,_⟩:=mayH_0 hc.1
  exact(bitsN_bd _ (fun x hx=>fieldsE_W _ _ _ g3 x (List.mem_of_mem_take hx))).1
 ·exact Int.le_refl 0
def sumE(m:Image)(x:CSum):Int:=match field m x.Slot.n x.Field.n with
 |none=>5
 |some w=>wantE (decide (w=16)&&decide ((offB ((slot m x.Slot.n).getD Header.z) x.Field.n).getD 0%16=0)) 9
def sumsE(m:Image)(l:List CSum):Int ×Int:=allE l.length 4 fun i=>match getI l i with|some x=>sumE m x|none=>0
set_option maxHeartbeats 2000000 in
theorem sum140(m:Image)(hm:Clo m)(hs:Small m)(l:GL CSum)(i:Int){x:CSum}(h:getI l.l i=some x):callRO vp 140 [.int .i64 i,.eptr (chkV m) 0 .brw,.eptr (GL.v 2 CSum.v l) 0 .brw]=some (.int .i64 (sumE m x)):=by
 have hf:=field489 m x.Slot.n x.Field.n hm x.Slot.hi
 rw[callRO_K fn140]
 cases hw:field m x.Slot.n x.Field.n with
 |none=>
  rw[hw]at hf
  simp -implicitDefEqProofs [h,hf,nilchk_m m,sumE,hw]
 |some w=>
  rw[hw]at hf
  obtain⟨hd,hsl⟩:=field_slot hw
  have hsv:=slot493 m x.Slot.n hm x.Slot.hi
  have hz:=slot_cl hm x.Slot.n
  rw[hsl]at hsv hz
  simp only[Option.getD_some,Option.isSome_some]at hsv hz
  have ho:=offset644 hd x.Field.n (hs.hf hd (slot_mem hsl))
  have hnn:=offB_nn hd x.Field.n
  have hrem:binV .rem (.int .i64 ((offB hd x.Field.n).getD 0)) (.int .i64 16)=some (.int .i64 ((offB hd x.Field.n).getD 0%16)):=by
   rw[bin_rem _ _ _ (by decide),Int.tmod_eq_emod_of_nonneg hnn]
  simp only[Option.getD_some,Option.isSome_some]at hf
  by_cases c:w=16
  ·have c':(w=16)=True:=eq_true c
   simp -implicitDefEqProofs [h,hf,nilchk_m m,sumE,hw,hsl,hsv,hz,hdr0,ho,hrem,c']
  ·simp -implicitDefEqProofs [h,hf,nilchk_m m,sumE,hw,hsl,hsv,hz,hdr0,ho,c]
theorem sums139(m:Image)(hm:Clo m)(hs:Small m)(l:GL CSum):callRO vp 139 [chkV m,GL.v 2 CSum.v l]=some (.tup [.int .i64 (sumsE m l.l).1,.int .i64 (sumsE m l.l).2]):=by
 have hle:=l.le
 have ha:=all501 140 [] [.eptr (chkV m) 0 .brw,.eptr (GL.v 2 CSum.v l) 0 .brw] fn140 rfl rfl rfl (by simp) l.l.length 4 (by omega) (by omega) (fun i=>match getI l.l i with|some x=>sumE m x|none=>0) (fun _ i h0 h1=>by
  rcases getI_cases l.l i with⟨x,_,_,hg⟩|⟨hg,_⟩
  ·simp only[hg,List.nil_append];exact sum140 m hm hs l i hg
  ·omega)
 rw[callRO_K fn139]
 simp -implicitDefEqProofs [ha,sumsE]
end Go.VE.Un
