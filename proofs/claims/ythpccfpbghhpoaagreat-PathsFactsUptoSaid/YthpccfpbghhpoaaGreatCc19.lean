/- Joined texts: PtI, CfL, PtJ, PtM, PtN. No condition: what each theorem needs stands in it. -/
import Derived.Test.YthpccfpbghhpoaaGreatCc18
import Derived.Test.YthpccfpbghhpoaaGreatCc16
namespace Go.VE.Un
open Go.VE
end Go.VE.Un
namespace Go.VE.Un
open Go.VE
def rd(P:List (Bool ×Sl))(i:Nat):Bool:=(P.getD i (false,0)).1
def st(P:List (Bool ×Sl))(i:Nat):Sl:=(P.getD i (false,0)).2
def Dn(P Q:List (Bool ×Sl)):Prop:= ∀k,rd P k=true→rd Q k=true∧Xv (st Q k) (st P k)
theorem Dn.refl(P:List (Bool ×Sl)):Dn P P:=fun _ h=>⟨h,.refl _⟩
theorem Dn.trans{P Q R:List (Bool ×Sl)}(h:Dn P Q)(g:Dn Q R):Dn P R:=fun k e=>⟨(g k (h k e).1).1,(g k (h k e).1).2.trans (h k e).2⟩
structure Snd (m:Zb) (n:Nat) (x:Ins) (k:Nat) (F:List (Bool ×Sl)):Prop where
 ok:(YY m x (st F k)).2.2=0
 stop:x.Op.n=34→rd F n=true∧Xv (st F n) (st F k)
 jump: ∀t,YL x=some t→rd F t.toNat=true∧Xv (st F t.toNat) (YY m x (st F k)).2.1
 next:x.Op.n≠34→x.Op.n≠31→rd F (k+1)=true∧Xv (st F (k+1)) (YY m x (st F k)).1
inductive ZHb (m:Zb) (n:Nat) (x:Ins) (k:Nat) (T:Sl):Nat→Sl→Prop
 |stop:x.Op.n=34→ZHb m n x k T n T
 |jump (t:Int):YL x=some t→x.Op.n≠33→ZHb m n x k T t.toNat T
 |gone (t:Int):YL x=some t→x.Op.n=33→JW T x.A.n=false→ZHb m n x k T t.toNat T
 |here:x.Op.n=33→JW T x.A.n=true→ZHb m n x k T (k+1) T
 |next:x.Op.n≠33→x.Op.n≠34→x.Op.n≠31→ZHb m n x k T (k+1) (YY m x T).1
end Go.VE.Un
namespace Go.VE.Un
open Go.VE
theorem ZH5(m:Zb)(hm:Clo m)(eg:Bool):Zc vp 918 [m.v,.bool eg]=some (GL.v 6 Zs.v (ndP m eg)):=by
 have h1:=ZgZ hm
 have h2:=ZjO hm
 rw[Za ZIe]
 cases eg
 ·simp -implicitDefEqProofs [f918,b918,ndP,h1]
 ·simp -implicitDefEqProofs [f918,b918,ndP,h2]
structure ZHL (m:Zb) (x:Zs) (k:Nat) (F:List (Bool ×Sl)):Prop where
 app:x.Kind.n=0→∀t,Zh m.Tables.l x.A.n=some t→∀a∈t.Actions.l,(Y1 m (WZ m a.n) (st F k)).2.2=0∧rd F x.Yes.n.toNat=true∧Xv (st F x.Yes.n.toNat) (Y1 m (WZ m a.n) (st F k)).1∧(a.n=t.Default.Action.n→rd F x.No.n.toNat=true∧Xv (st F x.No.n.toNat) (Y1 m (WZ m a.n) (st F k)).1)
 act:x.Kind.n=2→(Y1 m (WZ m x.A.n) (st F k)).2.2=0∧rd F x.Yes.n.toNat=true∧Xv (st F x.Yes.n.toNat) (Y1 m (WZ m x.A.n) (st F k)).1
 cnd:x.Kind.n=1→(Y1 m x.Code.l (st F k)).2.2=0∧rd F x.Yes.n.toNat=true∧Xv (st F x.Yes.n.toNat) (Y1 m x.Code.l (st F k)).1∧rd F x.No.n.toNat=true∧Xv (st F x.No.n.toNat) (Y1 m x.Code.l (st F k)).1
 vld:x.Kind.n=3→rd F x.Yes.n.toNat=true∧Xv (st F x.Yes.n.toNat) (VY (st F k) x.A.n)∧rd F x.No.n.toNat=true∧Xv (st F x.No.n.toNat) (Va (st F k) x.A.n)
end Go.VE.Un
namespace Go.VE.Un
open Go.VE
theorem ZIj(P:List (Bool ×Sl))(t:Tag)(a:Int)(h0:0≤a)(h1:a<P.length)(hl:P.length≤100)(s:Sl):Zc vp 922 [.sl 65 (P.map Za9) t,.int .i64 a,ZaU s]=some (.sl 65 ((atP P a.toNat s).map Za9) .perm):=by
 have hi:a.toNat<P.length:=by omega
 obtain⟨n,hn⟩: ∃n,P.length=n:=⟨_,rfl⟩
 have hne:(P.map Za9).isEmpty=false:=by cases P with|nil=>simp at hi|cons x r=>rfl
 have hap: ∀b,X3 0 [b,.arr []] 65 65 (.gsl 1 0 65 0 0) (P.map Za9)=some (.gsl 1 n 65 0 n,[b,.arr (P.map Za9)]):=fun b=>by
  rw[KY (es:=[]) (ep:=0) (by simp) rfl (by omega) hne (by unfold YC;simp;omega)]
  simp[hn]
 have hli: ∀h,Wl h 65 (.sl 65 (P.map Za9) t)=some (P.map Za9):=fun h=>rfl
 have hia:=iaG (B:=1) (z:=65) (ep:=n) (i:=a) h0 (by omega)
 have c0:YG (P.map Za9) n=some (P.map Za9):=Yt (by simp[hn])
 have hs0:ZaK n 0 n ((P.map Za9).set a.toNat (Za9 (Js (P.getD a.toNat (false,0)) s)))=some ((P.map Za9).set a.toNat (Za9 (Js (P.getD a.toNat (false,0)) s))):=Qy (by simp[hn])
 have c1: ∀v,YG ((P.map Za9).set a.toNat v) n=some ((P.map Za9).set a.toNat v):=fun v=>Yt (by simp[hn])
 have g0:(P.map Za9)[a.toNat]? =some (Za9 (P.getD a.toNat (false,0))):=by
  rw[List.getElem?_map,List.getD_eq_getElem?_getD,List.getElem?_eq_getElem hi];rfl
 have hmap:(atP P a.toNat s).map Za9=(P.map Za9).set a.toNat (Za9 (Js (P.getD a.toNat (false,0)) s)):=by unfold atP;rw[List.map_set]
 have hcl:Zv ((P.map Za9).set a.toNat (Za9 (Js (P.getD a.toNat (false,0)) s)))=true:=by
  rw[←hmap,YR];simp
 rw[hmap]
 generalize P.getD a.toNat (false,0)=pq at g0 hs0 hcl⊢
 obtain⟨r,q⟩:=pq
 have hb:=ZGZ q s
 generalize P.map Za9=A at*
 rw[Za ZJ4]
 cases r
 ·have hd:=fun fr=>ZIu ((25,ZaU s)::fr) 25 s (by simp)
  have hm:Js (false,q) s=(true,s):=rfl
  rw[hm]at hs0 hcl⊢
  simp -implicitDefEqProofs [f922,b922,hli,hap,hia,c0,g0,hd,ZIq,c1,hs0,hcl]
 ·have hd:=fun fr=>ZIu ((25,ZaU (q&&&s))::fr) 25 (q&&&s) (by simp)
  have hm:Js (true,q) s=(true,q&&&s):=rfl
  rw[hm]at hs0 hcl⊢
  simp -implicitDefEqProofs [f922,b922,hli,hap,hia,c0,g0,hb,hd,ZIq,c1,hs0,hcl]
theorem ZJF(m:Zb)(x:V)(l:GL I64)(hl: ∀a∈l.l,∃act,Zh m.Actions.l a.n=some act): ∀(r:List I64) (i n:Int),0≤i→i≤l.l.length→l.l.drop i.toNat=r→∃fr,(orc vp).loop 0 [2,3,6,7,8] ZJb [(2,.ptr 0 1 0 0),(3,.ptr 1 1 0 0),(6,.int .i64 n),(7,GL.v 1 I64.v l),(8,.int .i64 i)] [.arr [m.v],.arr [x]]=
 some (.brk 0,(2,.ptr 0 1 0 0)::(3,.ptr 1 1 0 0)::(6,.int .i64 (Zbf m r n))::fr,[.arr [m.v],.arr [x]]):=by
 have hle:=l.le
 intro r
 induction r with
 |nil=>
  intro i n hi hi2 hd
  have:=Zq hi hd
  have e:i=l.l.length:=by omega
  subst e
  refine⟨[(7,GL.v 1 I64.v l),(8,.int .i64 l.l.length),(22,.bool false)],?_⟩
  rw[ZJd]
  simp -implicitDefEqProofs [ZID,Zbf]
 |cons a r ih=>
  intro i n hi hi2 hd
  obtain⟨h1,h2,h3⟩:=Zp hi hd
  have w1:IntKind.i64.wrap (i+1)=i+1:=ZK (by omega) (by omega)
  have ha:a∈l.l:=by
   have:a∈l.l.drop i.toNat:=by rw[hd];simp
   exact List.mem_of_mem_drop this
  obtain⟨act,hact⟩:=hl a ha
  obtain⟨fr,ih⟩:=ih (i+1) (max n (WI m a.n)) (by omega) (by omega) h3
  have hcl:WI m a.n=act.Code.l.length:=by unfold WI;rw[hact]
  refine⟨fr,?_⟩
  rw[ZJd]
  simp only[Zbf]
  by_cases c:n<(act.Code.l.length:Int)
  ·have e:max n (WI m a.n)=act.Code.l.length:=by omega
   rw[e]at ih⊢
   simp -implicitDefEqProofs [ZID,h1,h2,hact,c,w1,ih]
  ·have e:max n (WI m a.n)=n:=by omega
   rw[e]at ih⊢
   simp -implicitDefEqProofs [ZID,h1,h2,hact,c,w1,ih]
theorem ZJy(m:Zb)(hc:Yr m=none)(x:Zs)(hnm:YZ m x=true):Zc vp 917 [m.v,x.v]=some (.int .i64 (Qk m x)):=by
 rw[Za ZJR]
 unfold Qk
 by_cases k0:x.Kind.n=0
 ·obtain⟨t,ht⟩:=Zzn hnm k0
  obtain⟨t1,t2⟩:=Za3 hc ht
  obtain⟨fr,hl⟩:=ZJF m x.v t.Actions t2 t.Actions.l 0 0 (by omega) (by omega) rfl
  have hb:=ZdV hc t.Actions.l 0 (by omega) (by omega)
  have w1:IntKind.i64.wrap (2+Zbf m t.Actions.l 0)=2+Zbf m t.Actions.l 0:=ZK (by omega) (by omega)
  simp -implicitDefEqProofs [f917,b917,k0,ht,hl,w1]
 by_cases k2:x.Kind.n=2
 ·obtain⟨a,ha⟩:=ZyL hnm k2
  have hb:=Q9 hc x.A.n
  have hcl:WI m x.A.n=a.Code.l.length:=by unfold WI;rw[ha]
  rw[hcl]at hb⊢
  have w1:IntKind.i64.wrap (1+(a.Code.l.length:Int))=1+a.Code.l.length:=ZK (by omega) (by omega)
  simp -implicitDefEqProofs [f917,b917,k2,ha,w1]
 by_cases k1:x.Kind.n=1
 ·have hle:=x.Code.le
  have w1:IntKind.i64.wrap (1+(x.Code.l.length:Int))=1+x.Code.l.length:=ZK (by omega) (by omega)
  simp -implicitDefEqProofs [f917,b917,k1,w1]
 ·simp -implicitDefEqProofs [f917,b917,k0,k1,k2]
end Go.VE.Un
namespace Go.VE.Un
open Go.VE
set_option maxHeartbeats 1000000 in
theorem ZJG(m:Zb)(hc:Yr m=none)(nd:GL Zs)(hcl:Ze (GL.v 6 Zs.v nd)=true)(n:Nat)(hn:nd.l.length=n)(hn2:n≤32)(hg: ∀i x,Zh nd.l i=some x→JD m n i x): ∀(j:Nat) (i:Int) (M:List Int),i+1=j→j≤n→M.length=n+1→(∀k:Nat,0≤M.getD k 0∧M.getD k 0≤66*(n-j))→∃fr,(orc vp).loop 0 [1,2,5,6] ZJa [(1,GL.v 6 Zs.v nd),(2,.ptr 0 1 0 0),(5,.gsl 1 (n+1) 1 0 (n+1)),(6,.int .i64 i)] [.arr [m.v],.arr (M.map (V.int .i64))]=
 some (.brk 0,(1,GL.v 6 Zs.v nd)::(2,.ptr 0 1 0 0)::(5,.gsl 1 (n+1) 1 0 (n+1))::fr,[.arr [m.v],.arr ((VO m nd.l j M).map (V.int .i64))]):=by
 intro j
 induction j with
 |zero=>
  intro i M hi hj hM hb
  have:i= -1:=by omega
  subst this
  refine⟨[(6,.int .i64 (-1)),(16,.bool false)],?_⟩
  rw[ZJc]
  simp -implicitDefEqProofs [ZIA,VO]
 |succ j ih=>
  intro i M hi hj hM hb
  have hij:i=j:=by omega
  subst hij
  have hlt:(j:Int)<nd.l.length:=by omega
  obtain⟨x,hx⟩: ∃x,nd.l[j]? =some x:=⟨_,List.getElem?_eq_getElem (by omega)⟩
  have hx':Zh nd.l (j:Int)=some x:=by simp[Zh,hx]
  obtain⟨k0,k3,hnm,hy,hno,hcd⟩:=hg _ _ hx'
  have hcost:=ZJy m hc x hnm
  have hcb:=Zox hc (hg _ _ hx')
  obtain⟨i2,hi2⟩: ∃i2:Int,(j:Int)-1=i2:=⟨_,rfl⟩
  have w1:IntKind.i64.wrap ((j:Int)-1)=i2:=by rw[ZK (by omega) (by omega),hi2]
  have hia:=iaG (B:=1) (z:=1) (ep:=n+1) (i:=(j:Int)) (by omega) (by omega)
  have hiy:=iaG (B:=1) (z:=1) (ep:=n+1) (i:=x.Yes.n) (by omega) (by omega)
  rw[Int.toNat_natCast]at hia
  have hjl:j<M.length:=by omega
  have gy:(M.map (V.int .i64))[x.Yes.n.toNat]? =some (.int .i64 (M.getD x.Yes.n.toNat 0)):=by
   have:x.Yes.n.toNat<M.length:=by omega
   rw[List.getElem?_map,List.getD_eq_getElem?_getD,List.getElem?_eq_getElem this];rfl
  have cA:YG (M.map (V.int .i64)) (n+1)=some (M.map (V.int .i64)):=Yt (by simp[hM])
  have gA:(M.map (V.int .i64))[j]? =some (.int .i64 (M.getD j 0)):=by
   rw[List.getElem?_map,List.getD_eq_getElem?_getD,List.getElem?_eq_getElem hjl];rfl
  have bS: ∀v,Zo 2 ((M.map (V.int .i64)).set j (.int .i64 v))=true:=fun v=>by rw[←List.map_set];exact Yq (fun _=>rfl) _
  have hby:=hb x.Yes.n.toNat
  have hst:VO m nd.l (j+1) M=VO m nd.l j (Ky m x j M):=by simp only[VO,hx]
  have ih:=ih i2 (Ky m x j M) (by omega) (by omega) (by rw[ZbC,hM]) (fun k=>by
   unfold Ky
   rw[List.getD_eq_getElem?_getD,List.getElem?_set]
   have hbn:=hb x.No.n.toNat
   have hbk:=hb k
   by_cases c:j=k
   ·subst c
    rw[if_pos rfl,if_pos hjl]
    simp only[Option.getD_some]
    split<;>omega
   ·rw[if_neg c,←List.getD_eq_getElem?_getD];omega)
  have hmap:(Ky m x j M).map (V.int .i64)=(M.map (V.int .i64)).set j (.int .i64 ((if x.Kind.n=2 then M.getD x.Yes.n.toNat 0 else max (M.getD x.Yes.n.toNat 0) (M.getD x.No.n.toNat 0))+Qk m x)):=by unfold Ky;rw[List.map_set]
  obtain⟨fr,ih⟩:=ih
  rw[hmap]at ih
  rw[hst]
  refine⟨fr,?_⟩
  rw[ZJc]
  by_cases c:x.Kind.n=2
  ·rw[if_pos c]at ih
   have w2:IntKind.i64.wrap (M.getD x.Yes.n.toNat 0+Qk m x)=M.getD x.Yes.n.toNat 0+Qk m x:=ZK (by omega) (by omega)
   generalize M.getD x.Yes.n.toNat 0=a at*
   generalize (M.map (V.int .i64))=A at*
   simp -implicitDefEqProofs [ZIA,hlt,hx',hia,hiy,gy,cA,gA,bS,hcost,c,w1,w2,ih]
  ·rw[if_neg c]at ih
   obtain⟨n0,n1⟩:=hno c
   have hin:=iaG (B:=1) (z:=1) (ep:=n+1) (i:=x.No.n) (by omega) (by omega)
   have gN:(M.map (V.int .i64))[x.No.n.toNat]? =some (.int .i64 (M.getD x.No.n.toNat 0)):=by
    have h1:x.No.n.toNat<M.length:=by omega
    rw[List.getElem?_map,List.getD_eq_getElem?_getD,List.getElem?_eq_getElem h1];rfl
   have hbn:=hb x.No.n.toNat
   by_cases d:M.getD x.Yes.n.toNat 0<M.getD x.No.n.toNat 0
   ·rw[show max (M.getD x.Yes.n.toNat 0) (M.getD x.No.n.toNat 0)=M.getD x.No.n.toNat 0 by omega]at ih
    have w2:IntKind.i64.wrap (M.getD x.No.n.toNat 0+Qk m x)=M.getD x.No.n.toNat 0+Qk m x:=ZK (by omega) (by omega)
    generalize M.getD x.Yes.n.toNat 0=a at*
    generalize M.getD x.No.n.toNat 0=a2 at*
    generalize (M.map (V.int .i64))=A at*
    simp -implicitDefEqProofs [ZIA,hlt,hx',hia,hiy,hin,gy,cA,gA,gN,bS,hcost,c,d,w1,w2,ih]
   ·rw[show max (M.getD x.Yes.n.toNat 0) (M.getD x.No.n.toNat 0)=M.getD x.Yes.n.toNat 0 by omega]at ih
    have w2:IntKind.i64.wrap (M.getD x.Yes.n.toNat 0+Qk m x)=M.getD x.Yes.n.toNat 0+Qk m x:=ZK (by omega) (by omega)
    generalize M.getD x.Yes.n.toNat 0=a at*
    generalize M.getD x.No.n.toNat 0=a2 at*
    generalize (M.map (V.int .i64))=A at*
    simp -implicitDefEqProofs [ZIA,hlt,hx',hia,hiy,hin,gy,cA,gA,gN,bS,hcost,c,d,w1,w2,ih]
theorem ZJl(m:Zb)(hc:Yr m=none)(nd:GL Zs)(hcl:Ze (GL.v 6 Zs.v nd)=true)(hn2:nd.l.length≤32)(hg: ∀i x,Zh nd.l i=some x→JD m nd.l.length i x):Zc vp 919 [m.v,GL.v 6 Zs.v nd]=some (.int .i64 (Zau m nd.l)):=by
 obtain⟨n,hn⟩: ∃n,nd.l.length=n:=⟨_,rfl⟩
 have hsI:Zau m nd.l=(VO m nd.l n (List.replicate (n+1) 0)).getD 0 0:=by unfold Zau;rw[hn]
 have hg': ∀i x,Zh nd.l i=some x→JD m n i x:=fun i x h=>hn▸hg i x h
 obtain⟨fr,hl⟩:=ZJG m hc nd hcl n hn (by omega) hg' n ((n:Int)-1) (List.replicate (n+1) 0) (by omega) (by omega) (by simp) (fun k=>by
  rw[List.getD_eq_getElem?_getD,List.getElem?_replicate];split<;>simp)
 have hlen:=ZaM m nd.l n (List.replicate (n+1) 0)
 rw[List.length_replicate]at hlen
 rw[hsI,Za ZJW]
 have w1:IntKind.i64.wrap ((n:Int)+1)=(n:Int)+1:=ZK (by omega) (by omega)
 have w2:IntKind.i64.wrap ((n:Int)-1)=(n:Int)-1:=ZK (by omega) (by omega)
 have hmk: ∀a,UW [a] (.int .i64 0) 8 (.int .i64 ((n:Int)+1)) (.int .i64 ((n:Int)+1))=some (.gsl 1 (n+1) 1 0 (n+1),[a,.arr ((List.replicate (n+1) (0:Int)).map (V.int .i64))]):=fun a=>by
  unfold UW
  simp only
  have e3:((n:Int)+1).toNat=n+1:=by omega
  rw[if_pos (by unfold YC;omega),e3,List.map_replicate];rfl
 have hi0:=iaG (B:=1) (z:=1) (ep:=n+1) (i:=0) (by omega) (by omega)
 generalize VO m nd.l n (List.replicate (n+1) 0)=M at*
 have c1:YG (M.map (V.int .i64)) (n+1)=some (M.map (V.int .i64)):=Yt (by simp[hlen])
 have g1:(M.map (V.int .i64))[0]? =some (.int .i64 (M.getD 0 0)):=by
  have:0<M.length:=by omega
  rw[List.getElem?_map,List.getD_eq_getElem?_getD,List.getElem?_eq_getElem this];rfl
 generalize M.getD 0 0=r at*
 generalize (List.replicate (n+1) (0:Int)).map (V.int .i64)=R at*
 generalize M.map (V.int .i64)=A at*
 simp -implicitDefEqProofs [f919,b919,hn,w1,w2,hmk,hl,hi0,c1,g1]
theorem ZIB(m:Zb)(hb:m.Insts.l.length≤10000000)(hc:Yr m=none)(l:GL Ins)(hk:Y3 m l.l 8=0)(s:Sl):Zc vp 906 [m.v,GL.v 6 Ins.v l,ZaU s]=some (.tup [ZaU (Y1 m l.l s).1,.int .i64 (Y1 m l.l s).2.1,.int .i64 (Y1 m l.l s).2.2]):=by
 obtain⟨h1,h2,h3⟩:=Zln hk
 rw[ZJv m hb (ZtQ hc).1 l h2 (Qz h1).1 h3 s]
 unfold Y1
 rw[if_pos ⟨hc,hk⟩]
 have he:=fun {j e}=>ZHN m l.l.length l.l 0 (Yk l.l.length s) (j:=j) (e:=e)
 generalize Ys m l.l.length l.l 0 (Yk l.l.length s)=q at he⊢
 obtain⟨o,P⟩:=q
 cases o with
 |some je=>obtain⟨j,e⟩:=je;obtain rfl:=he rfl;rfl
 |none=>rfl
def rwV:Option Wr→V
 |none=>.agg [.bool false,.int .i64 0,.int .i64 0,.int .i64 0]
 |some (p,n,a,_)=>.agg [.bool true,.int .i64 p,.int .i64 n,.int .i64 a]
@[simp] theorem ZHx(w:Option Wr):Ze (rwV w)=true:=by cases w<;>rfl
@[simp] theorem ZHB(k:Nat)(w:Option Wr):Zk k (rwV w)=true:=by cases w<;>rfl
theorem ZIv(m:Zb)(hb:m.Insts.l.length≤10000000)(hc:Yr m=none)(a:Int)(act:Action)(hg:Zh m.Actions.l a=some act)(s:Sl):
 Zc vp 920 [m.v,.int .i64 a,ZaU s]=some (.tup [ZaU (Y1 m act.Code.l s).1,rwV (if(Y1 m act.Code.l s).2.2=0 then none else some (5,a,(Y1 m act.Code.l s).2.1,11))]):=by
 have h:=ZIB m hb hc act.Code (Znw hc hg) s
 have hz:=ZGK
 generalize Y1 m act.Code.l s=q at h⊢
 obtain⟨o,j,e⟩:=q
 simp only at h⊢
 have hb0: ∀fr,Zf fr (.build [.bool false,.int .i64 0,.int .i64 0,.int .i64 0] [])=some (.agg [.bool false,.int .i64 0,.int .i64 0,.int .i64 0]):=fun _=>rfl
 rw[Za ZJS]
 by_cases he:e=0
 ·rw[if_pos he]
  simp -implicitDefEqProofs [f920,b920,hg,hz,h,he,hb0,rwV]
 ·rw[if_neg he]
  simp -implicitDefEqProofs [f920,b920,hg,hz,h,he,Zf,ZC,rwV]
end Go.VE.Un
