/- Joined texts: CkH, CkI, CkJ, CkK, CkL. No condition: what each theorem needs stands in it. -/
import Derived.Test.YtlekfkibeafdiaaGreatCc8
namespace Go.VE.Un
open Go.VE
theorem ZG(m:Zb)(fr:Fr)(x:Z3)(e:opd fr x=ZN m):Zf fr (.nilchk x)=some (ZN m):=by simp only[Zf,e]
def Zx{α:Type}(f:α→Int):List α→Int
 |[]=>0
 |x::r=>if f x=0 then Zx f r else f x
def Vp(m:Zb)(looks:Bool)(k:Key):Int:=
 if inB k.Kind.n 0 2=false then 10 else if k.Kind.n=2∧looks=false then 10
 else if(Xt m k).isSome=false then(if k.Kind.n=2 then 7 else 5)
 else if k.Kind.n=1∧k.B.n≠0 then 7 else 0
theorem Zqw(m:Zb)(hm:Clo m)(looks:Bool)(l:GL Key): ∀(r:List Key) (k:Int),0≤k→k≤l.l.length→l.l.drop k.toNat=r→∃hh,(orc vp).loop 0 [0,1,2,16,17,18] Zgj [(0,ZN m),(1,GL.v 3 Key.v l),(2,.bool looks),(16,GL.v 3 Key.v l),(17,.int .i64 l.l.length),(18,.int .i64 k)] []=
 (if Zx (Vp m looks) r=0 then some (.brk 0,[(0,ZN m),(1,GL.v 3 Key.v l),(2,.bool looks),(16,GL.v 3 Key.v l),(17,.int .i64 l.l.length),(18,.int .i64 l.l.length),(19,.bool false)],[])
  else some (.ret,[(6,.int .i64 (Zx (Vp m looks) r))],hh)):=by
 have hle:=l.le
 intro r
 induction r with
 |nil=>
  intro k hk hkl hd
  have hlt: ¬k<l.l.length:=by have:=Zq hk hd;omega
  have he:k=l.l.length:=by have:=Zq hk hd;omega
  refine⟨[],?_⟩
  rw[V2]
  simp -implicitDefEqProofs [hlt,he,Zx]
 |cons x r ih=>
  intro k hk hkl hd
  obtain⟨hg,hlt,hd'⟩:=Zp hk hd
  have w1:=w64 (n:=k+1) (by omega)
  obtain⟨hh,ih⟩:=ih (k+1) (by omega) (by omega) hd'
  by_cases c1:(decide (0≤x.Kind.n)&&decide (x.Kind.n≤2))=true
  ·have cc:x.Kind.n=0∨x.Kind.n=1∨x.Kind.n=2:=by simp at c1;omega
   have hp:=ZiZ m x hm
   cases hw:(Xt m x).isSome with
   |false=>
    rw[hw]at hp
    refine⟨[.arr [x.v]],?_⟩
    rw[V2]
    rcases cc with c|c|c
    ·simp -implicitDefEqProofs [hlt,hg,hp,hw,c1,c,Vp,Zx,inB,ZG m]
    ·simp -implicitDefEqProofs [hlt,hg,hp,hw,c1,c,Vp,Zx,inB,ZG m]
    ·cases looks<;>simp -implicitDefEqProofs [hlt,hg,hp,hw,c1,c,Vp,Zx,inB,ZG m]
   |true=>
    rw[hw]at hp
    rcases cc with c|c|c
    ·refine⟨hh,?_⟩
     rw[V2]
     simp -implicitDefEqProofs [hlt,hg,hp,hw,c1,c,Vp,Zx,inB,ZG m,w1,ih]
    ·by_cases hb:x.B.n=0
     ·refine⟨hh,?_⟩
      rw[V2]
      simp -implicitDefEqProofs [hlt,hg,hp,hw,c1,c,hb,Vp,Zx,inB,ZG m,w1,ih]
     ·refine⟨[.arr [x.v]],?_⟩
      rw[V2]
      simp -implicitDefEqProofs [hlt,hg,hp,hw,c1,c,hb,Vp,Zx,inB,ZG m]
    ·cases looks with
     |false=>
      refine⟨[.arr [x.v]],?_⟩
      rw[V2]
      simp -implicitDefEqProofs [hlt,hg,hp,hw,c1,c,Vp,Zx,inB,ZG m]
     |true=>
      refine⟨hh,?_⟩
      rw[V2]
      simp -implicitDefEqProofs [hlt,hg,hp,hw,c1,c,Vp,Zx,inB,ZG m,w1,ih]
  ·have hp:=ZiZ m x hm
   simp only[Bool.not_eq_true]at c1
   refine⟨[.arr [x.v]],?_⟩
   rw[V2]
   simp -implicitDefEqProofs [hlt,hg,hp,c1,Vp,Zx,inB,ZG m]
def QW(m:Zb)(l:List Key)(looks:Bool):Int:=
 if 4<l.length then 2 else if Zx (Vp m looks) l=0 then Zl (WW m l 0).isSome 9 else Zx (Vp m looks) l
theorem Znc(m:Zb)(hm:Clo m)(l:GL Key)(looks:Bool):Zc vp 121 [ZN m,GL.v 3 Key.v l,.bool looks]=some (.int .i64 (QW m l.l looks)):=by
 have hle:=l.le
 obtain⟨hh,h⟩:=Zqw m hm looks l l.l 0 (by omega) (by omega) rfl
 have hk:=Zn0 m l hm
 rw[Za ZwR]
 by_cases h4:4<l.l.length
 ·have h4':(4:Int)<l.l.length:=by omega
  simp -implicitDefEqProofs [h4,h4',QW]
 ·have h4': ¬(4:Int)<l.l.length:=by omega
  by_cases h0:Zx (Vp m looks) l.l=0
  ·rw[if_pos h0]at h
   simp -implicitDefEqProofs [h4,h4',h,h0,QW,hk,ZG m]
  ·rw[if_neg h0]at h
   simp -implicitDefEqProofs [h4,h4',h,h0,QW]
def Vx(m:Zb)(x:Z7)(w:Int):Int:=
 if x.Value.good=true∧x.Mask.good=true∧x.Value.W.n=w∧x.Mask.W.n=w then
  ZI [Zl ((U4 x.Value x.Mask).1.same x.Value) 14,UX m x.Next.n]else 9
theorem Zt1(m:Zb)(x:Z7)(w:Int):Zc vp 131 [ZN m,x.v,.int .i64 w]=some (.int .i64 (Vx m x w)):=by
 have hn:=Zjq m x.Next.n
 rw[Za ZwU]
 by_cases h1:x.Value.good=true
 ·by_cases h2:x.Mask.good=true
  ·by_cases h3:x.Value.W.n=w
   ·by_cases h4:x.Mask.W.n=w
    ·have h3':(x.Value.W.n=w)=True:=eq_true h3
     have h4':(x.Mask.W.n=w)=True:=eq_true h4
     simp -implicitDefEqProofs [h1,h2,h3',h4',Vx,hn,Zf]
    ·simp -implicitDefEqProofs [h1,h2,h3,h4,Vx]
   ·simp -implicitDefEqProofs [h1,h2,h3,Vx]
  ·simp -implicitDefEqProofs [h1,h2,Vx]
 ·simp -implicitDefEqProofs [h1,Vx]
def stA(m:Zb)(i:Int)(s:ZJ):Int:=ZI [ZH (nStates m) i,Zl (decide ((s.Exts.l.length:Int)≤4)) 2]
def stB(m:Zb)(s:ZJ)(t:Bool):Int:=ZI [QW m s.Keys.l true,Zl (decide ((s.Cases.l.length:Int)≤8)) 2,Zl t 4]
def stT(s:ZJ):Bool:=if s.Cases.l.length=0 then true else decide (0<s.Keys.l.length)
def stO(m:Zb)(s:ZJ):Int:=Zx (fun x=>Vx m x ((WW m s.Keys.l 0).getD 0)) s.Cases.l
def stE(m:Zb)(i:Int)(s:ZJ)(t:Bool):Int:=
 if stA m i s=0 then(if Zx (WY m) s.Exts.l=0 then(if stB m s t=0 then(if stO m s=0 then UX m s.Next.n else stO m s)else stB m s t)else Zx (WY m) s.Exts.l)else stA m i s
def W6(m:Zb)(i:Int):Int:=match Zh m.States.l i with|none=>0|some s=>stE m i s (stT s)
theorem ZkO(m:Zb)(hm:Clo m)(hI:Deep m)(s:ZJ)(l:GL Ext): ∀(r:List Ext) (k:Int),0≤k→k≤l.l.length→l.l.drop k.toNat=r→∃hh,(orc vp).loop 0 [2,5,38,39,40] ZhS [(2,.ptr 0 1 0 0),(5,.ptr 1 1 0 0),(38,GL.v 2 Ext.v l),(39,.int .i64 l.l.length),(40,.int .i64 k)] [.arr [ZN m],.arr [s.v]]=
 (if Zx (WY m) r=0 then some (.brk 0,[(2,.ptr 0 1 0 0),(5,.ptr 1 1 0 0),(38,GL.v 2 Ext.v l),(39,.int .i64 l.l.length),(40,.int .i64 l.l.length),(41,.bool false)],[.arr [ZN m],.arr [s.v]])
  else some (.ret,[(4,.int .i64 (Zx (WY m) r))],hh)):=by
 have hle:=l.le
 intro r
 induction r with
 |nil=>
  intro k hk hkl hd
  have hlt: ¬k<l.l.length:=by have:=Zq hk hd;omega
  have he:k=l.l.length:=by have:=Zq hk hd;omega
  refine⟨[],?_⟩
  rw[Zd5]
  simp -implicitDefEqProofs [hlt,he,Zx]
 |cons x r ih=>
  intro k hk hkl hd
  obtain⟨hg,hlt,hd'⟩:=Zp hk hd
  have w1:=w64 (n:=k+1) (by omega)
  obtain⟨hh,ih⟩:=ih (k+1) (by omega) (by omega) hd'
  have he:=Zsr m hm hI x
  by_cases h0:WY m x=0
  ·refine⟨hh,?_⟩
   rw[Zd5]
   simp -implicitDefEqProofs [hlt,hg,he,h0,Zx,w1,ih]
  ·refine⟨[.arr [ZN m],.arr [s.v],.arr [x.v]],?_⟩
   rw[Zd5]
   simp -implicitDefEqProofs [hlt,hg,he,h0,Zx]
theorem Zk7(m:Zb)(w:Int)(s:ZJ)(l:GL Z7): ∀(r:List Z7) (k:Int),0≤k→k≤l.l.length→l.l.drop k.toNat=r→∃hh,(orc vp).loop 0 [2,5,11,87,88,89] Zh3 [(2,.ptr 0 1 0 0),(5,.ptr 1 1 0 0),(11,.int .i64 w),(87,GL.v 7 Z7.v l),(88,.int .i64 l.l.length),(89,.int .i64 k)] [.arr [ZN m],.arr [s.v]]=
 (if Zx (fun x=>Vx m x w) r=0 then some (.brk 2,[(2,.ptr 0 1 0 0),(5,.ptr 1 1 0 0),(11,.int .i64 w),(87,GL.v 7 Z7.v l),(88,.int .i64 l.l.length),(89,.int .i64 l.l.length),(90,.bool false)],[.arr [ZN m],.arr [s.v]])
  else some (.ret,[(4,.int .i64 (Zx (fun x=>Vx m x w) r))],hh)):=by
 have hle:=l.le
 intro r
 induction r with
 |nil=>
  intro k hk hkl hd
  have hlt: ¬k<l.l.length:=by have:=Zq hk hd;omega
  have he:k=l.l.length:=by have:=Zq hk hd;omega
  refine⟨[],?_⟩
  rw[Zce]
  simp -implicitDefEqProofs [hlt,he,Zx]
 |cons x r ih=>
  intro k hk hkl hd
  obtain⟨hg,hlt,hd'⟩:=Zp hk hd
  have w1:=w64 (n:=k+1) (by omega)
  obtain⟨hh,ih⟩:=ih (k+1) (by omega) (by omega) hd'
  have he:=Zt1 m x w
  by_cases h0:Vx m x w=0
  ·refine⟨hh,?_⟩
   rw[Zce]
   simp -implicitDefEqProofs [hlt,hg,he,h0,Zx,w1,ih]
  ·refine⟨[.arr [ZN m],.arr [s.v],.arr [x.v]],?_⟩
   rw[Zce]
   simp -implicitDefEqProofs [hlt,hg,he,h0,Zx]
theorem Zki{m:Zb}(hm:Clo m):Ze (GL.v 5 ZJ.v m.States)=true:=by
 simp only[Clo,Zb.closed,Bool.and_eq_true]at hm;simp[hm]
set_option maxHeartbeats 4000000 in
set_option maxRecDepth 100000 in
theorem ZmM(m:Zb)(hm:Clo m)(hI:Deep m)(hs:Z2 m)(i:Int){s:ZJ}(h:Zh m.States.l i=some s):Zc vp 137 [ZN m,.int .i64 i]=some (.int .i64 (W6 m i)):=by
 have hc:=Xc (Zki hm) h
 simp only[ZJ.closed,Bool.and_eq_true]at hc
 have ht:=ZjE m hs i h
 have hk:=Znc m hm s.Keys true
 have hw:=Zn0 m s.Keys hm
 have hn:=Zjq m s.Next.n
 obtain⟨h1,l1⟩:=ZkO m hm hI s s.Exts s.Exts.l 0 (by omega) (by omega) rfl
 obtain⟨h2,l2⟩:=Zk7 m ((WW m s.Keys.l 0).getD 0) s s.Cases s.Cases.l 0 (by omega) (by omega) rfl
 have hr:W6 m i=stE m i s (stT s):=by simp only[W6,h]
 rw[Za Zri,hr]
 by_cases c1:stA m i s=0
 ·by_cases c2:Zx (WY m) s.Exts.l=0
  ·rw[if_pos c2]at l1
   have ho:stO m s=Zx (fun x=>Vx m x ((WW m s.Keys.l 0).getD 0)) s.Cases.l:=rfl
   rw[←ho]at l2
   unfold stA at c1
   by_cases z1:s.Cases.l=[]
   ·have z2:stT s=true:=by unfold stT;rw[if_pos (by rw[z1];rfl)]
    have z1':(s.Cases.l=[])=True:=eq_true z1
    rw[z2]
    by_cases c3:stB m s true=0
    ·unfold stB at c3
     by_cases c4:stO m s=0
     ·rw[if_pos c4]at l2
      simp -implicitDefEqProofs [h,hc,Zf,ht,l1,hk,hw,hn,l2,stE,stA,stB,c1,c2,c3,c4,z1']
     ·rw[if_neg c4]at l2
      simp -implicitDefEqProofs [h,hc,Zf,ht,l1,hk,hw,hn,l2,stE,stA,stB,c1,c2,c3,c4,z1']
    ·unfold stB at c3
     simp -implicitDefEqProofs [h,hc,Zf,ht,l1,hk,hw,hn,stE,stA,stB,c1,c2,c3,z1']
   ·have z1':(s.Cases.l=[])=False:=eq_false z1
    have z0: ¬s.Cases.l.length=0:=by simpa using z1
    by_cases zk:0<s.Keys.l.length
    ·have z2:stT s=true:=by unfold stT;rw[if_neg z0];simpa using zk
     have zk1:(0<s.Keys.l.length)=True:=eq_true zk
     have zk2:((0:Int)<s.Keys.l.length)=True:=eq_true (by omega)
     rw[z2]
     by_cases c3:stB m s true=0
     ·unfold stB at c3
      by_cases c4:stO m s=0
      ·rw[if_pos c4]at l2
       simp -implicitDefEqProofs [h,hc,Zf,ht,l1,hk,hw,hn,l2,stE,stA,stB,c1,c2,c3,c4,z1',zk1,zk2]
      ·rw[if_neg c4]at l2
       simp -implicitDefEqProofs [h,hc,Zf,ht,l1,hk,hw,hn,l2,stE,stA,stB,c1,c2,c3,c4,z1',zk1,zk2]
     ·unfold stB at c3
      simp -implicitDefEqProofs [h,hc,Zf,ht,l1,hk,hw,hn,stE,stA,stB,c1,c2,c3,z1',zk1,zk2]
    ·have z2:stT s=false:=by unfold stT;rw[if_neg z0];simpa using zk
     have zk1:(0<s.Keys.l.length)=False:=eq_false zk
     have zk2:((0:Int)<s.Keys.l.length)=False:=eq_false (by omega)
     rw[z2]
     by_cases c3:stB m s false=0
     ·unfold stB at c3
      by_cases c4:stO m s=0
      ·rw[if_pos c4]at l2
       simp -implicitDefEqProofs [h,hc,Zf,ht,l1,hk,hw,hn,l2,stE,stA,stB,c1,c2,c3,c4,z1',zk1,zk2]
      ·rw[if_neg c4]at l2
       simp -implicitDefEqProofs [h,hc,Zf,ht,l1,hk,hw,hn,l2,stE,stA,stB,c1,c2,c3,c4,z1',zk1,zk2]
     ·unfold stB at c3
      simp -implicitDefEqProofs [h,hc,Zf,ht,l1,hk,hw,hn,stE,stA,stB,c1,c2,c3,z1',zk1,zk2]
  ·rw[if_neg c2]at l1
   unfold stA at c1
   simp -implicitDefEqProofs [h,hc,Zf,ht,l1,stE,stA,c1,c2]
 ·unfold stA at c1
  simp -implicitDefEqProofs [h,hc,Zf,ht,stE,stA,c1]
end Go.VE.Un
namespace Go.VE.Un
open Go.VE
def Yo(m:Zb)(x:Ins)(p:Int):Bool:=
 if x.Op.n=2∨x.Op.n=23 then(Vs m x.A.n).isSome else if x.Op.n=3 then decide (x.A.n<p)
 else if x.Op.n=5∨x.Op.n=24 then decide (x.A.n<(m.Regs.l.length:Int))else if x.Op.n=29 then decide (x.A.n<(m.Counters.l.length:Int))else decide (x.A.n<(m.Meters.l.length:Int))
theorem ZeF(m:Zb)(fr:Fr)(x:Z3)(e:opd fr x=ZN m):Zf fr (.nilchk x)=some (ZN m):=by simp only[Zf,e]
theorem Zoq(m:Zb)(x:Ins)(p:Int)(h:x.Op.n=2∨x.Op.n=23∨x.Op.n=3∨x.Op.n=5∨x.Op.n=24∨x.Op.n=29∨x.Op.n=30):
 Zc vp 113 [ZN m,.agg [.int .i64 x.Op.n,.int .i64 x.A.n],.int .i64 p]=some (.bool (Yo m x p)):=by
 have hm:=Zp1 m x.A.n x.A.lo x.A.hi
 rw[Za ZyD]
 rcases h with h|h|h|h|h|h|h<;>simp -implicitDefEqProofs [h,hm,ZeF m,Yo]
def Zj(m:Zb)(x:Ins)(p:Int):Bool:=
 match(Zh Yf x.Op.n).getD 0 with
 |281=>(field m x.A.n x.B.n).isSome
 |283=>(Xl m x.A.n).isSome
 |276=>(Xl m x.A.n).isSome
 |277=>(Z8 m x.A.n).isSome
 |275=>Yo m x p
 |_=>true
set_option maxHeartbeats 4000000 in
theorem Zj5(m:Zb)(hm:Clo m)(x:Ins)(h:WB x=0)(ps:GL I64):Zc vp 134 [ZN m,Yu x,GL.v 1 I64.v ps]=some (.bool (Zj m x ps.l.length)):=by
 obtain⟨h0,h1⟩:=QO h
 have hf:=ZeS m x.A.n x.B.n hm x.A.hi
 have hsl:=JI m x.A.n hm x.A.hi
 have hz:=Wg hm x.A.n
 have hst: ∃a b,Zc vp 494 [m.v,.int .i64 x.A.n]=some (.tup [.int .i64 a,.int .i64 b,.bool (Z8 m x.A.n).isSome]):=by
  have:=Za0 m x.A.n
  cases hs:Z8 m x.A.n with
  |none=>rw[hs]at this;exact⟨0,0,this⟩
  |some q=>obtain⟨a,b⟩:=q;rw[hs]at this;exact⟨a,b,this⟩
 obtain⟨sa,sb,hst⟩:=hst
 have hc:(x.Op.n=2∨x.Op.n=23∨x.Op.n=3∨x.Op.n=5∨x.Op.n=24∨x.Op.n=29∨x.Op.n=30)→Zc vp 113 [ZN m,.agg [.int .i64 x.Op.n,.int .i64 x.A.n],.int .i64 ps.l.length]=some (.bool (Yo m x ps.l.length)):=Zoq m x ps.l.length
 rw[Za Zzf]
 generalize he:x.Op.n=o at h0 h1
 rcases XZ h0 h1 with rfl|rfl|rfl|rfl|rfl|rfl|rfl|rfl|rfl|rfl|rfl|rfl|rfl|rfl|rfl|rfl|rfl|rfl|rfl|rfl|rfl|rfl|rfl|rfl|rfl|rfl|rfl|rfl|rfl|rfl|rfl|rfl|rfl|rfl|rfl
 all_goals
  rw[he]at hc
  simp -implicitDefEqProofs at hc
  simp -implicitDefEqProofs [he,Yu,Zh,Yf,Zj,hf,hsl,hz,hst,hc,Ye,ZeF m]
def V0(m:Zb)(p n i:Int)(x:Ins):Int:=
 if Zj m x p=false then 5 else match YL x with|some to=>Zl (inB to (i+1) n) 12|none=>0
def Y6(m:Zb)(p n:Int):List Ins→Int→Int
 |[],_=>0
 |x::r,i=>if V0 m p n i x=0 then Y6 m p n r (i+1)else V0 m p n i x
def Y3(m:Zb)(l:List Ins)(p:Int):Int:=match QS l with|some (_,e)=>e|none=>Y6 m p l.length l 0
theorem Q8: ∀(l:List Ins) (i:Int),Wd l i=none→∀x∈l,WB x=0
 |[],_,_,x,hx=>by simp at hx
 |y::r,i,h,x,hx=>by
  simp only[Wd]at h
  split at h
  ·rename_i h0
   rcases List.mem_cons.1 hx with rfl|hx
   ·exact h0
   ·exact Q8 r _ h x hx
  ·simp at h
theorem ZaY: ∀(l:List Ins) (i:Int) {j e:Int},Wd l i=some (j,e)→e≠0
 |[],_,_,_,h=>by simp[Wd]at h
 |y::r,i,j,e,h=>by
  simp only[Wd]at h
  split at h
  ·exact ZaY r _ h
  ·rename_i h0;simp only[Option.some.injEq,Prod.mk.injEq]at h;rw[←h.2];exact h0
theorem Qz{l:List Ins}(h:QS l=none):l.length≤64∧∀x∈l,WB x=0:=by
 unfold QS at h
 split at h
 ·simp at h
 ·rename_i hc
  split at h
  ·simp at h
  ·rename_i hl
   have:l.length≤64:=by omega
   rw[List.take_of_length_le this]at hc
   exact⟨this,Q8 l 0 hc⟩
theorem J9{l:List Ins}{i e:Int}(h:QS l=some (i,e)):e≠0:=by
 unfold QS at h
 split at h
 ·rename_i r hc;obtain⟨a,b⟩:=r;simp only[Option.some.injEq,Prod.mk.injEq]at h;rw[←h.2];exact ZaY _ _ hc
 ·split at h
  ·simp only[Option.some.injEq,Prod.mk.injEq]at h;omega
  ·simp at h
@[simp] theorem KV(x:Ins):ldc (Yu x) false 1 0=some (Yu x):=by
  unfold Yu;split<;>rfl
theorem ZqB(m:Zb)(hm:Clo m)(l:GL Ins)(ps:GL I64)(hl: ∀x∈l.l,WB x=0): ∀(r:List Ins) (k:Int),0≤k→k≤l.l.length→l.l.drop k.toNat=r→(orc vp).loop 0 [0,1,2,23,24,25] ZhA [(0,ZN m),(1,GL.v 6 Ins.v l),(2,GL.v 1 I64.v ps),(23,.sl 1 (l.l.map Yu) .perm),(24,.int .i64 l.l.length),(25,.int .i64 k)] []=
 (if Y6 m ps.l.length l.l.length r k=0 then some (.brk 0,[(0,ZN m),(1,GL.v 6 Ins.v l),(2,GL.v 1 I64.v ps),(23,.sl 1 (l.l.map Yu) .perm),(24,.int .i64 l.l.length),(25,.int .i64 l.l.length),(26,.bool false)],[])
  else some (.ret,[(6,.int .i64 (Y6 m ps.l.length l.l.length r k))],[])):=by
 have hle:=l.le
 intro r
 induction r with
 |nil=>
  intro k hk hkl hd
  have hlt: ¬k<l.l.length:=by have:=Zq hk hd;omega
  have he:k=l.l.length:=by have:=Zq hk hd;omega
  rw[Zjj]
  simp -implicitDefEqProofs [hlt,he,Y6]
 |cons x r ih=>
  intro k hk hkl hd
  obtain⟨hg,hlt,hd'⟩:=Zp hk hd
  have w1:=w64 (n:=k+1) (by omega)
  have ih:=ih (k+1) (by omega) (by omega) hd'
  have h0:=hl x (List.mem_of_getElem? (by rw[Zh,if_pos hk]at hg;exact hg))
  have hr:=Zj5 m hm x h0 ps
  have ht:=Zbo x h0
  rw[Zjj]
  by_cases c1:Zj m x ps.l.length=true
  ·cases c2:YL x with
   |none=>
    rw[c2]at ht
    simp -implicitDefEqProofs [hlt,hg,hr,ht,c1,c2,w1,ih,Y6,V0]
   |some to=>
    rw[c2]at ht
    by_cases c3:(decide (k+1≤to)&&decide (to≤(l.l.length:Int)))=true
    ·simp -implicitDefEqProofs [hlt,hg,hr,ht,c1,c2,c3,w1,ih,Y6,V0,Zl,inB]
    ·simp only[Bool.not_eq_true]at c3
     simp -implicitDefEqProofs [hlt,hg,hr,ht,c1,c2,c3,w1,Y6,V0,Zl,inB]
  ·simp only[Bool.not_eq_true]at c1
   simp -implicitDefEqProofs [hlt,hg,hr,c1,Y6,V0]
theorem Zds(m:Zb)(hm:Clo m)(l:GL Ins)(ps:GL I64):Zc vp 114 [ZN m,GL.v 6 Ins.v l,GL.v 1 I64.v ps]=some (.int .i64 (Y3 m l.l ps.l.length)):=by
 have ha:=ZmF l
 rw[Za Zyy]
 cases hc:QS l.l with
 |some p=>
  obtain⟨i,e⟩:=p
  have he:=J9 hc
  rw[hc]at ha
  simp -implicitDefEqProofs [ha,he,Y3,hc]
 |none=>
  rw[hc]at ha
  obtain⟨_,h2⟩:=Qz hc
  have hlp:=ZqB m hm l ps h2 l.l 0 (by omega) (by omega) rfl
  by_cases c:Y6 m ps.l.length l.l.length l.l 0=0
  ·rw[if_pos c]at hlp
   simp -implicitDefEqProofs [ha,hlp,Y3,hc,c]
  ·rw[if_neg c]at hlp
   simp -implicitDefEqProofs [ha,hlp,Y3,hc,c]
end Go.VE.Un
namespace Go.VE.Un
open Go.VE
def Ud(w:I64):Int:=if inB w.n 1 128=true then 0 else 9
theorem ZqI(m:Zb)(a:Action)(l:GL I64): ∀(r:List I64) (k:Int),0≤k→k≤l.l.length→l.l.drop k.toNat=r→∃hh,(orc vp).loop 0 [2,5,31,32,33] ZfV [(2,.ptr 0 1 0 0),(5,.ptr 1 1 0 0),(31,GL.v 1 I64.v l),(32,.int .i64 l.l.length),(33,.int .i64 k)] [.arr [ZN m],.arr [a.v]]=
 (if Zx Ud r=0 then some (.brk 0,[(2,.ptr 0 1 0 0),(5,.ptr 1 1 0 0),(31,GL.v 1 I64.v l),(32,.int .i64 l.l.length),(33,.int .i64 l.l.length),(34,.bool false)],[.arr [ZN m],.arr [a.v]])
  else some (.ret,[(4,.int .i64 (Zx Ud r))],hh)):=by
 have hle:=l.le
 intro r
 induction r with
 |nil=>
  intro k hk hkl hd
  have hlt: ¬k<l.l.length:=by have:=Zq hk hd;omega
  have he:k=l.l.length:=by have:=Zq hk hd;omega
  refine⟨[],?_⟩
  rw[Zd9]
  simp -implicitDefEqProofs [hlt,he,Zx]
 |cons x r ih=>
  intro k hk hkl hd
  obtain⟨hg,hlt,hd'⟩:=Zp hk hd
  have w1:=w64 (n:=k+1) (by omega)
  obtain⟨hh,ih⟩:=ih (k+1) (by omega) (by omega) hd'
  by_cases h0:(decide (1≤x.n)&&decide (x.n≤128))=true
  ·refine⟨hh,?_⟩
   rw[Zd9]
   simp -implicitDefEqProofs [hlt,hg,h0,Zx,Ud,inB,w1,ih]
  ·simp only[Bool.not_eq_true]at h0
   refine⟨[.arr [ZN m],.arr [a.v]],?_⟩
   rw[Zd9]
   simp -implicitDefEqProofs [hlt,hg,h0,Zx,Ud,inB]
theorem ZgS{m:Zb}(hm:Clo m):Ze (GL.v 3 Action.v m.Actions)=true:=by
 simp only[Clo,Zb.closed,Bool.and_eq_true]at hm;simp[hm]
def Zb9(m:Zb)(i:Int)(a:Action):Int:=ZI [ZH (nActions m) i,Zl (decide ((a.Params.l.length:Int)≤8)) 2]
def Xa(m:Zb)(i:Int):Int:=match Zh m.Actions.l i with
 |none=>0
 |some a=>if Zb9 m i a=0 then(if Zx Ud a.Params.l=0 then Y3 m a.Code.l a.Params.l.length else Zx Ud a.Params.l)else Zb9 m i a
set_option maxHeartbeats 4000000 in
set_option maxRecDepth 100000 in
theorem ZlF(m:Zb)(hm:Clo m)(hs:Z2 m)(i:Int){a:Action}(h:Zh m.Actions.l i=some a):Zc vp 109 [ZN m,.int .i64 i]=some (.int .i64 (Xa m i)):=by
 have hc:=Xc (ZgS hm) h
 simp only[Action.closed,Bool.and_eq_true]at hc
 have ht:=ZjP m hs i h
 have hcd:=Zds m hm a.Code a.Params
 obtain⟨h1,l1⟩:=ZqI m a a.Params a.Params.l 0 (by omega) (by omega) rfl
 rw[Za Zro]
 by_cases c1:Zb9 m i a=0
 ·unfold Zb9 at c1
  by_cases c2:Zx Ud a.Params.l=0
  ·rw[if_pos c2]at l1
   simp -implicitDefEqProofs [h,hc,Zf,ht,l1,hcd,Xa,Zb9,c1,c2]
  ·rw[if_neg c2]at l1
   simp -implicitDefEqProofs [h,hc,Zf,ht,l1,Xa,Zb9,c1,c2]
 ·unfold Zb9 at c1
  simp -implicitDefEqProofs [h,hc,Zf,ht,Xa,Zb9,c1]
def X8:List Vec→List I64→Int
 |[],_=>0
 |_,[]=>0
 |v::r,p::q=>if v.good=true∧v.W.n=p.n then X8 r q else 9
theorem ZpF(ps:GL I64)(l:GL Vec)(hl:l.l.length=ps.l.length): ∀(r:List Vec) (k:Int) (q:List I64),0≤k→k≤l.l.length→l.l.drop k.toNat=r→ps.l.drop k.toNat=q→∃hh,(orc vp).loop 0 [7,24,25,26] ZgU [(7,GL.v 1 I64.v ps),(24,GL.v 3 Vec.v l),(25,.int .i64 l.l.length),(26,.int .i64 k)] []=
 (if X8 r q=0 then some (.brk 0,[(7,GL.v 1 I64.v ps),(24,GL.v 3 Vec.v l),(25,.int .i64 l.l.length),(26,.int .i64 l.l.length),(27,.bool false)],[])
  else some (.ret,[(6,.int .i64 9)],hh)):=by
 have hle:=l.le
 intro r
 induction r with
 |nil=>
  intro k q hk hkl hd hq
  have hlt: ¬k<l.l.length:=by have:=Zq hk hd;omega
  have he:k=l.l.length:=by have:=Zq hk hd;omega
  refine⟨[],?_⟩
  rw[KO]
  simp -implicitDefEqProofs [hlt,he,X8]
 |cons x r ih=>
  intro k q hk hkl hd hq
  obtain⟨hg,hlt,hd'⟩:=Zp hk hd
  cases q with
  |nil=>have:=Zq hk hq;omega
  |cons p q=>
   obtain⟨hg2,_,hq'⟩:=Zp hk hq
   have w1:=w64 (n:=k+1) (by omega)
   obtain⟨hh,ih⟩:=ih (k+1) q (by omega) (by omega) hd' hq'
   by_cases h0:x.good=true
   ·by_cases h1:x.W.n=p.n
    ·have h1':(x.W.n=p.n)=True:=eq_true h1
     refine⟨hh,?_⟩
     rw[KO]
     simp -implicitDefEqProofs [hlt,hg,hg2,h0,h1',X8,w1,ih]
    ·refine⟨[.arr [x.v]],?_⟩
     rw[KO]
     simp -implicitDefEqProofs [hlt,hg,hg2,h0,h1,X8]
   ·refine⟨[.arr [x.v]],?_⟩
    rw[KO]
    simp -implicitDefEqProofs [hlt,hg,h0,X8]
def WR(m:Zb)(i:Int)(l:List Vec):Int:=match Zh m.Actions.l i with
 |none=>0
 |some a=>if l.length=a.Params.l.length then X8 l a.Params.l else 2
theorem Ks: ∀(l:List Vec) (q:List I64),X8 l q=0∨X8 l q=9
 |[],_=>.inl (by simp[X8])
 |_::_,[]=>.inl (by simp[X8])
 |v::r,p::q=>by
  simp only[X8];split
  ·exact Ks r q
  ·exact .inr rfl
theorem Zi2(m:Zb)(i:Int){a:Action}(h:Zh m.Actions.l i=some a)(l:GL Vec):Zc vp 111 [ZN m,.int .i64 i,GL.v 3 Vec.v l]=some (.int .i64 (WR m i l.l)):=by
 rw[Za Zvr]
 by_cases hl:l.l.length=a.Params.l.length
 ·obtain⟨hh,h1⟩:=ZpF a.Params l hl l.l 0 a.Params.l (by omega) (by omega) rfl rfl
  have hl':((l.l.length:Int)=a.Params.l.length)=True:=eq_true (by omega)
  have hlp:(l.l.length=a.Params.l.length)=True:=eq_true hl
  rcases Ks l.l a.Params.l with c|c
  ·rw[if_pos c]at h1
   simp -implicitDefEqProofs [h,ZG m,hl',hlp,h1,WR,c]
  ·rw[if_neg (by omega)]at h1
   simp -implicitDefEqProofs [h,ZG m,hl',hlp,h1,WR,c]
 ·have hl':((l.l.length:Int)=a.Params.l.length)=False:=eq_false (by omega)
  simp -implicitDefEqProofs [h,ZG m,hl',hl,WR]
def Y2(m:Zb)(l:List I64):List I64→Int→Int
 |[],_=>0
 |x::r,i=>if inB x.n 0 (m.Actions.l.length-1)=false then 5 else if(x.n∈(l.take i.toNat).map (·.n))then 6 else Y2 m l r (i+1)
theorem Zp0(m:Zb)(l:GL I64): ∀(r:List I64) (k:Int),0≤k→k≤l.l.length→l.l.drop k.toNat=r→(orc vp).loop 0 [0,1,10,11,12] Zh1 [(0,ZN m),(1,GL.v 1 I64.v l),(10,GL.v 1 I64.v l),(11,.int .i64 l.l.length),(12,.int .i64 k)] []=
 (if Y2 m l.l r k=0 then some (.brk 0,[(0,ZN m),(1,GL.v 1 I64.v l),(10,GL.v 1 I64.v l),(11,.int .i64 l.l.length),(12,.int .i64 l.l.length),(13,.bool false)],[])
  else some (.ret,[(4,.int .i64 (Y2 m l.l r k))],[])):=by
 have hle:=l.le
 have hla:=m.Actions.le
 have w0:=w64 (n:=m.Actions.l.length-1) (by omega)
 intro r
 induction r with
 |nil=>
  intro k hk hkl hd
  have hlt: ¬k<l.l.length:=by have:=Zq hk hd;omega
  have he:k=l.l.length:=by have:=Zq hk hd;omega
  rw[Zjy]
  simp -implicitDefEqProofs [hlt,he,Y2]
 |cons x r ih=>
  intro k hk hkl hd
  obtain⟨hg,hlt,hd'⟩:=Zp hk hd
  have w1:=w64 (n:=k+1) (by omega)
  have ih:=ih (k+1) (by omega) (by omega) hd'
  have hsl:=GL.slice_hi 1 I64.v l .i64 k (by omega) hk (by omega)
  have hcn:=JE x.n (l.take k)
  rw[GL.take_l]at hcn
  rw[Zjy]
  by_cases c1:(decide (0≤x.n)&&decide (x.n≤(m.Actions.l.length:Int)-1))=true
  ·by_cases c2:x.n∈(l.l.take k.toNat).map (·.n)
   ·rw[decide_eq_true c2]at hcn
    have hr:Y2 m l.l (x::r) k=6:=by
     simp only[Y2,inB,c1];rw[if_neg (by simp),if_pos c2]
    rw[hr]
    simp -implicitDefEqProofs [hlt,hg,ZG m,w0,c1,hsl,hcn]
   ·rw[decide_eq_false c2]at hcn
    have hr:Y2 m l.l (x::r) k=Y2 m l.l r (k+1):=by
     simp only[Y2,inB,c1];rw[if_neg (by simp),if_neg c2]
    rw[hr]
    simp -implicitDefEqProofs [hlt,hg,ZG m,w0,w1,c1,hsl,hcn,ih]
  ·simp only[Bool.not_eq_true]at c1
   have hr:Y2 m l.l (x::r) k=5:=by
    simp only[Y2,inB,c1];rw[if_pos trivial]
   rw[hr]
   simp -implicitDefEqProofs [hlt,hg,ZG m,w0,c1]
def Ug(m:Zb)(l:List I64):Int:=if 8<l.length then 2 else if Y2 m l l 0=0 then Zl (decide (0<(l.length:Int))) 5 else Y2 m l l 0
theorem ZnL(m:Zb)(l:GL I64):Zc vp 112 [ZN m,GL.v 1 I64.v l]=some (.int .i64 (Ug m l.l)):=by
 have h:=Zp0 m l l.l 0 (by omega) (by omega) rfl
 rw[Za Zys]
 by_cases h8:8<l.l.length
 ·have h8':(8:Int)<l.l.length:=by omega
  simp -implicitDefEqProofs [h8,h8',Ug]
 ·have h8': ¬(8:Int)<l.l.length:=by omega
  by_cases c:Y2 m l.l l.l 0=0
  ·rw[if_pos c]at h
   simp -implicitDefEqProofs [h8,h8',h,c,Ug]
  ·rw[if_neg c]at h
   simp -implicitDefEqProofs [h8,h8',h,c,Ug]
end Go.VE.Un
namespace Go.VE.Un
open Go.VE
def YZ(m:Zb)(x:Zs):Bool:=
 if x.Kind.n=0 then inB x.A.n 0 (m.Tables.l.length-1)else if x.Kind.n=2 then inB x.A.n 0 (m.Actions.l.length-1)else if x.Kind.n=1 then decide (x.A.n=0)else(Xl m x.A.n).isSome
theorem ZmE(m:Zb)(hm:Clo m)(x:Zs):Zc vp 126 [ZN m,x.v]=some (.bool (YZ m x)):=by
 have h1:=m.Tables.le
 have h2:=m.Actions.le
 have w1:=w64 (n:=m.Tables.l.length-1) (by omega)
 have w2:=w64 (n:=m.Actions.l.length-1) (by omega)
 have hsl:=JI m x.A.n hm x.A.hi
 have hz:=Wg hm x.A.n
 rw[Za Zxf]
 by_cases c0:x.Kind.n=0
 ·simp -implicitDefEqProofs [c0,ZG m,w1,YZ,inB]
 ·by_cases c2:x.Kind.n=2
  ·simp -implicitDefEqProofs [c2,ZG m,w2,YZ,inB]
  ·by_cases c1:x.Kind.n=1
   ·simp -implicitDefEqProofs [c1,ZG m,YZ]
   ·simp -implicitDefEqProofs [c0,c1,c2,ZG m,YZ,hsl,hz,Ye]
def WU(m:Zb)(x:Zs):Int:=ZI [Zl (decide (0≤x.Kind.n)&&decide (x.Kind.n≤3)) 10,Zl (YZ m x) 5]
def UV(m:Zb)(x:Zs):Int:=if x.Kind.n=1 then Y3 m x.Code.l 0 else Zl x.Code.l.isEmpty 4
def Qa(m:Zb)(x:Zs)(i n:Int):Int:=if x.Kind.n=2 then ZI [WR m x.A.n x.Args.l,Zl (decide (x.No.n=0)) 4]else ZI [Zl x.Args.l.isEmpty 4,Zl (decide (i+1≤x.No.n)&&decide (x.No.n≤n)) 12]
def Wb(m:Zb)(x:Zs)(i n:Int):Int:=
 if WU m x=0 then(if UV m x=0 then ZI [Qa m x i n,Zl (decide (i+1≤x.Yes.n)&&decide (x.Yes.n≤n)) 12]else UV m x)else WU m x
theorem Qb{a b:Int}(h:ZI [a,b]=0):a=0∧b=0:=by
 simp only[ZI]at h;split at h
 ·rename_i h1;split at h
  ·rename_i h2;exact⟨h1,h2⟩
  ·exact⟨h1,h⟩
 ·omega
set_option maxHeartbeats 4000000 in
set_option maxRecDepth 100000 in
theorem ZoG(m:Zb)(hm:Clo m)(x:Zs)(i n:Int)(h0:0≤i)(h1:i≤140737488355328):Zc vp 128 [ZN m,x.v,.int .i64 i,.int .i64 n]=some (.int .i64 (Wb m x i n)):=by
 have w1:=w64 (n:=i+1) (by omega)
 have hnm:=ZmE m hm x
 have hcd:Zc vp 114 [ZN m,GL.v 6 Ins.v x.Code,.sl 1 [] .nl]=some (.int .i64 (Y3 m x.Code.l 0)):=Zds m hm x.Code ⟨[],.nl,by simp⟩
 rw[Za Zzy]
 by_cases ca:WU m x=0
 ·have⟨ca1,ca2⟩:=Qb ca
  have hk:0≤x.Kind.n∧x.Kind.n≤3:=by
   unfold Zl at ca1;split at ca1
   ·rename_i hh;simpa using hh
   ·omega
  have hnb:YZ m x=true:=by
   unfold Zl at ca2;split at ca2
   ·assumption
   ·omega
  by_cases k1:x.Kind.n=1
  ·have k1':(x.Kind.n=1)=True:=eq_true k1
   have k2':(x.Kind.n=2)=False:=eq_false (by omega)
   have hb:UV m x=Y3 m x.Code.l 0:=by unfold UV;rw[if_pos k1]
   by_cases cb:Y3 m x.Code.l 0=0
   ·by_cases za:x.Args.l=[]
    ·have za':(x.Args.l=[])=True:=eq_true za
     have ze:x.Args.l.isEmpty=true:=by simp[za]
     unfold WU at ca
     simp -implicitDefEqProofs [hnm,Zf,ca,k1',k2',hcd,cb,hb,za',ze,w1,Wb,WU,Qa]
    ·have za':(x.Args.l=[])=False:=eq_false za
     have ze:x.Args.l.isEmpty=false:=by simp[za]
     unfold WU at ca
     simp -implicitDefEqProofs [hnm,Zf,ca,k1',k2',hcd,cb,hb,za',ze,w1,Wb,WU,Qa]
   ·unfold WU at ca
    simp -implicitDefEqProofs [hnm,Zf,ca,k1',k2',hcd,cb,hb,Wb,WU]
  ·have k1':(x.Kind.n=1)=False:=eq_false k1
   by_cases zc:x.Code.l=[]
   ·have zc':(x.Code.l=[])=True:=eq_true zc
    have hb:UV m x=0:=by unfold UV;rw[if_neg k1];simp[zc,Zl]
    have hw:Zl true 4=0:=rfl
    by_cases k2:x.Kind.n=2
    ·have k2':(x.Kind.n=2)=True:=eq_true k2
     have hA: ∃a,Zh m.Actions.l x.A.n=some a:=by
      have:=hnb
      unfold YZ at this
      rw[if_neg (by omega),if_pos k2]at this
      simp[inB]at this
      rcases Zm m.Actions.l x.A.n with⟨a,_,_,hg⟩|⟨hg,_⟩
      ·exact⟨a,hg⟩
      ·omega
     obtain⟨a,hA⟩:=hA
     have har:=Zi2 m x.A.n hA x.Args
     unfold WU at ca
     simp -implicitDefEqProofs [hnm,Zf,ca,k1',k2',zc',hw,hb,har,w1,Wb,WU,Qa]
    ·have k2':(x.Kind.n=2)=False:=eq_false k2
     by_cases za:x.Args.l=[]
     ·have za':(x.Args.l=[])=True:=eq_true za
      have ze:x.Args.l.isEmpty=true:=by simp[za]
      unfold WU at ca
      simp -implicitDefEqProofs [hnm,Zf,ca,k1',k2',zc',hw,hb,za',ze,w1,Wb,WU,Qa]
     ·have za':(x.Args.l=[])=False:=eq_false za
      have ze:x.Args.l.isEmpty=false:=by simp[za]
      unfold WU at ca
      simp -implicitDefEqProofs [hnm,Zf,ca,k1',k2',zc',hw,hb,za',ze,w1,Wb,WU,Qa]
   ·have zc':(x.Code.l=[])=False:=eq_false zc
    have hb:UV m x=4:=by unfold UV;rw[if_neg k1];simp[zc,Zl]
    have hw:Zl false 4=4:=rfl
    unfold WU at ca
    simp -implicitDefEqProofs [hnm,Zf,ca,k1',zc',hw,hb,Wb,WU]
 ·unfold WU at ca
  simp -implicitDefEqProofs [hnm,Zf,ca,Wb,WU]
end Go.VE.Un
namespace Go.VE.Un
open Go.VE
def Wj(m:Zb)(l:List Zs):Int ×Int:=Yw l.length 32 fun i=>match Zh l i with|some x=>Wb m x i l.length|none=>0
theorem ZpA(m:Zb)(hm:Clo m)(l:GL Zs)(i:Int){x:Zs}(h:Zh l.l i=some x):Zc vp 130 [.int .i64 i,.eptr (ZN m) 0 .brw,.eptr (GL.v 6 Zs.v l) 0 .brw]=some (.int .i64 (Wb m x i l.l.length)):=by
 have hle:=l.le
 have hi:0≤i∧i<l.l.length:=by
  rcases Zm l.l i with⟨a,h0,h1,_⟩|⟨_,h1⟩
  ·exact⟨h0,h1⟩
  ·rw[h1]at h;simp at h
 have hn:=ZoG m hm x i l.l.length hi.1 (by omega)
 rw[Za ZrA]
 simp -implicitDefEqProofs [h,hn]
theorem Ze4(m:Zb)(hm:Clo m)(l:GL Zs):Zc vp 129 [ZN m,GL.v 6 Zs.v l]=some (.tup [.int .i64 (Wj m l.l).1,.int .i64 (Wj m l.l).2]):=by
 have hle:=l.le
 have ha:=VM 130 [] [.eptr (ZN m) 0 .brw,.eptr (GL.v 6 Zs.v l) 0 .brw] ZrA rfl rfl rfl (by simp) l.l.length 32 (by omega) (by omega) (fun i=>match Zh l.l i with|some x=>Wb m x i l.l.length|none=>0) (fun _ i h0 h1=>by
  rcases Zm l.l i with⟨x,_,_,hg⟩|⟨hg,_⟩
  ·simp only[hg,List.nil_append];exact ZpA m hm l i hg
  ·omega)
 rw[Za ZwB]
 simp -implicitDefEqProofs [ha,Wj]
theorem Zm2{m:Zb}{s:Int}{h:Header}(e:Xl m s=some h):h∈m.Headers.l:=by
 simp only[Xl,Wf,Option.bind_eq_some_iff]at e
 obtain⟨r,_,hg⟩:=e
 unfold Zh at hg;split at hg
 ·exact List.mem_of_getElem? hg
 ·simp at hg
theorem Zgf{m:Zb}{s f w:Int}(e:field m s f=some w): ∃h,Xl m s=some h:=by
 simp only[field,Option.bind_eq_some_iff]at e
 exact⟨e.choose,e.choose_spec.1⟩
theorem Zp2(h:Header)(f:Int):0≤(QT h f).getD 0:=by
 unfold QT
 split
 ·rename_i hc
  obtain⟨_,_,_,g3,_⟩:=ZhV hc.1
  exact(Zad _ (fun x hx=>QA _ _ _ g3 x (List.mem_of_mem_take hx))).1
 ·exact Int.le_refl 0
def K4(m:Zb)(x:Yj):Int:=match field m x.Slot.n x.Field.n with
 |none=>5
 |some w=>Zl (decide (w=16)&&decide ((QT ((Xl m x.Slot.n).getD Header.z) x.Field.n).getD 0%16=0)) 9
def Q4(m:Zb)(l:List Yj):Int ×Int:=Yw l.length 4 fun i=>match Zh l i with|some x=>K4 m x|none=>0
set_option maxHeartbeats 2000000 in
theorem ZtG(m:Zb)(hm:Clo m)(hs:Z2 m)(l:GL Yj)(i:Int){x:Yj}(h:Zh l.l i=some x):Zc vp 140 [.int .i64 i,.eptr (ZN m) 0 .brw,.eptr (GL.v 2 Yj.v l) 0 .brw]=some (.int .i64 (K4 m x)):=by
 have hf:=ZeS m x.Slot.n x.Field.n hm x.Slot.hi
 rw[Za Zrm]
 cases hw:field m x.Slot.n x.Field.n with
 |none=>
  rw[hw]at hf
  simp -implicitDefEqProofs [h,hf,ZG m,K4,hw]
 |some w=>
  rw[hw]at hf
  obtain⟨hd,hsl⟩:=Zgf hw
  have hsv:=JI m x.Slot.n hm x.Slot.hi
  have hz:=Wg hm x.Slot.n
  rw[hsl]at hsv hz
  simp only[Option.getD_some,Option.isSome_some]at hsv hz
  have ho:=ZkX hd x.Field.n (hs.hf hd (Zm2 hsl))
  have hnn:=Zp2 hd x.Field.n
  have hrem:Yh .rem (.int .i64 ((QT hd x.Field.n).getD 0)) (.int .i64 16)=some (.int .i64 ((QT hd x.Field.n).getD 0%16)):=by
   rw[JH _ _ _ (by decide),Int.tmod_eq_emod_of_nonneg hnn]
  simp only[Option.getD_some,Option.isSome_some]at hf
  by_cases c:w=16
  ·have c':(w=16)=True:=eq_true c
   simp -implicitDefEqProofs [h,hf,ZG m,K4,hw,hsl,hsv,hz,Ye,ho,hrem,c']
  ·simp -implicitDefEqProofs [h,hf,ZG m,K4,hw,hsl,hsv,hz,Ye,ho,c]
theorem Zio(m:Zb)(hm:Clo m)(hs:Z2 m)(l:GL Yj):Zc vp 139 [ZN m,GL.v 2 Yj.v l]=some (.tup [.int .i64 (Q4 m l.l).1,.int .i64 (Q4 m l.l).2]):=by
 have hle:=l.le
 have ha:=VM 140 [] [.eptr (ZN m) 0 .brw,.eptr (GL.v 2 Yj.v l) 0 .brw] Zrm rfl rfl rfl (by simp) l.l.length 4 (by omega) (by omega) (fun i=>match Zh l.l i with|some x=>K4 m x|none=>0) (fun _ i h0 h1=>by
  rcases Zm l.l i with⟨x,_,_,hg⟩|⟨hg,_⟩
  ·simp only[hg,List.nil_append];exact ZtG m hm hs l i hg
  ·omega)
 rw[Za Zvb]
 simp -implicitDefEqProofs [ha,Q4]
end Go.VE.Un
