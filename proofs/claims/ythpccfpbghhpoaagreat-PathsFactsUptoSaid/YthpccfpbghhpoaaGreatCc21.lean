/- Joined texts: PtPb, PtPc, PtQ, PtR. No condition: what each theorem needs stands in it. -/
import Derived.Test.YthpccfpbghhpoaaGreatCc20
namespace Go.VE.Un
open Go.VE
section
variable (m : Zb) (hm : Clo m) (hb : m.Insts.l.length ≤ 10000000) (hc : Yr m = none) (p : Int) (N : GL Zs) (hcl : Ze (GL.v 6 Zs.v N) = true) (n : Nat) (hn : N.l.length = n) (hn2 : n ≤ 32) (hg : ∀ i x, Zh N.l i = some x → JD m n i x) (e1 e4 t0 t1 t2 t3 t4 t5 : List V)
include hm hb hc hcl hn hn2 hg in
set_option maxRecDepth 100000 in
set_option maxHeartbeats 4000000 in
theorem ZJC(i i2:Nat)(hi3:i+1=i2)(hi2:i<n)(x:Zs)(hx':Zh N.l (i:Int)=some x)(P S:List (Bool ×Sl))(hP:P.length=n+1)(hS:S.length=i)(s:Sl)(hpp:P.getD i (false,0)=(true,s)): ∃hh,(orc vp).loop 0 [3,6,7,8,9,10,11,12] ZIk [(3,.ptr 0 1 0 0),(6,.ptr 2 1 0 0),(7,.ptr 3 1 0 0),(8,GL.v 6 Zs.v N),(9,.int .i64 p),(10,.sl 65 (P.map Za9) .perm),(11,.ptr 5 1 0 0),(12,.int .i64 i)] [.arr [m.v],.arr e1,.arr [fR (.sl 1 [] .nl) (.sl 64 [] .nl) 0#64 0],.arr [rwV none],.arr e4,.arr [fR (.gsl 6 i 1 0 i) (.gsl 7 i 64 0 i) 0#64 0],.arr (bS S),.arr (rS S),.arr t0,.arr t1,.arr t2,.arr t3,.arr t4,.arr t5]=match Vr m p i x P s with
 |(none,P')=>(orc vp).loop 0 [3,6,7,8,9,10,11,12] ZIk [(3,.ptr 0 1 0 0),(6,.ptr 2 1 0 0),(7,.ptr 3 1 0 0),(8,GL.v 6 Zs.v N),(9,.int .i64 p),(10,.sl 65 (P'.map Za9) .perm),(11,.ptr 5 1 0 0),(12,.int .i64 i2)] [.arr [m.v],.arr e1,.arr [fR (.sl 1 [] .nl) (.sl 64 [] .nl) 0#64 0],.arr [rwV none],.arr e4,.arr [fR (.gsl 6 i2 1 0 i2) (.gsl 7 i2 64 0 i2) 0#64 0],.arr (bS (S++[(true,s)])),.arr (rS (S++[(true,s)])),.arr t0,.arr t1,.arr t2,.arr t3,.arr t4,.arr t5]
 |(some w,_)=>some (.ret,[(6,.ptr 2 1 0 0),(7,.ptr 3 1 0 0)],.arr [m.v]::.arr e1::.arr [fR (.sl 1 [] .nl) (.sl 64 [] .nl) 0#64 0]::.arr [rwV (some w)]::hh):=by
 have hlt:((i:Int):Int)<n:=by omega
 have hxc:=Xc hcl hx'
 have hgx:=hg _ _ hx'
 have w1:IntKind.i64.wrap ((i:Int)+1)=(i2:Int):=by rw[ZK (by omega) (by omega)];omega
 have hpl:i<P.length:=by omega
 have hia:Yb 65 (.sl 65 (P.map Za9) .perm) (.int .i64 (i:Int))=some (.eptr (Za9 (true,s)) 0 .perm):=by
  rw[Zfc]
  unfold Zh
  rw[if_pos (by omega),show((i:Int):Int).toNat=i from by omega,List.getElem?_map,←hpp,List.getD_eq_getElem?_getD,List.getElem?_eq_getElem hpl];rfl
 have hs1:=fun fr=>slK fr 1 44 (.bool true) rfl rfl
 have hs2:=fun fr=>slK fr 64 54 (ZaU s) (by simp[ZaU,bsV,V.cells]) (ZA1 s)
 have hb0: ∀fr,Zf fr (.build [.bool false,.int .i64 0,.int .i64 0,.int .i64 0] [])=some (.agg [.bool false,.int .i64 0,.int .i64 0,.int .i64 0]):=fun _=>rfl
 have lz1: ∀(h:Zg) v,Wl h 1 (.sl 1 [v] .ce)=some [v]:=fun _ _=>rfl
 have lz2: ∀(h:Zg) v,Wl h 64 (.sl 64 [v] .ce)=some [v]:=fun _ _=>rfl
 have hz:=ZGK
 have hfb:=ZJm
 have hfz:=ZIZ
 have hbA:=fun k=>ZIg k P
 have bb:=fun k=>ZIm k (S++[(true,s)])
 have bs:=fun k=>ZIl k (S++[(true,s)])
 have eb:bS (S++[(true,s)])=bS S++[.bool true]:=by simp[bS]
 have es:rS (S++[(true,s)])=rS S++[ZaU s]:=by simp[rS]
 have lb:(bS S).length=i:=by simp[bS,hS]
 have ls:(rS S).length=i:=by simp[rS,hS]
 have bb0:=fun k=>ZIm k S
 have bs0:=fun k=>ZIl k S
 have ab: ∀a0 a1 a2 a3 a4 a5 a7,X3 0 [a0,a1,a2,a3,a4,a5,.arr (bS S),a7,.arr t0,.arr t1,.arr t2,.arr t3,.arr t4,.arr t5] 1 1 (.gsl 6 i 1 0 i) [.bool true]=some (.gsl 6 i2 1 0 i2,[a0,a1,a2,a3,a4,a5,.arr (bS S++[.bool true]),a7,.arr t0,.arr t1,.arr t2,.arr t3,.arr t4,.arr t5]):=fun a0 a1 a2 a3 a4 a5 a7=>by
  rw[KY (es:=bS S) (by simp) lb (by omega) rfl (by unfold YC;simp;omega)]
  simp[hi3]
 have as_: ∀a0 a1 a2 a3 a4 a5 a6,X3 0 [a0,a1,a2,a3,a4,a5,a6,.arr (rS S),.arr t0,.arr t1,.arr t2,.arr t3,.arr t4,.arr t5] 64 64 (.gsl 7 i 64 0 i) [ZaU s]=some (.gsl 7 i2 64 0 i2,[a0,a1,a2,a3,a4,a5,a6,.arr (rS S++[ZaU s]),.arr t0,.arr t1,.arr t2,.arr t3,.arr t4,.arr t5]):=fun a0 a1 a2 a3 a4 a5 a6=>by
  rw[KY (es:=rS S) (by simp) ls (by omega) rfl (by unfold YC;simp;omega)]
  simp[hi3]
 rw[eb]at bb
 rw[es]at bs
 simp only[eb,es]
 obtain⟨y0,y1⟩:=hgx.yes
 unfold Vr
 by_cases k0:x.Kind.n=0
 ·obtain⟨n0,n1⟩:=hgx.no (by omega)
  have hap:=ZIN m hm hb hc n hn2 p i x hgx k0 P hP hi2 true s hpp
  skip
  rw[if_pos k0]
  have hQ:=ZIg
  generalize UC m p (i:Int) x P s=q at hap⊢
  obtain⟨o,P'⟩:=q
  have hbQ:=fun k=>ZIg k P'
  cases o with
  |none=>
   dsimp only at hap
   refine⟨[],?_⟩
   dsimp only
   generalize P'.map Za9=Q at*
   generalize P.map Za9=A at*
   generalize bS S=B at*
   generalize rS S=D at*
   rw[ZIh]
   simp(maxSteps:=2000000) -implicitDefEqProofs [ZIi,hn,hlt,hia,hx',hxc,hs1,hs2,hb0,lz1,lz2,hz,hfb,hfz,ab,as_,bb,bs,hbA,w1,rwV,bb0,bs0,hxc,ZIt,ZIn,ZIo,UE,Tx.E,Tx.D,Tx.mv,Tx.nk,Tx.fa,Tx.ld,Tx.ia,Tx.la,Tx.al,Tx.ct,Tx.ex,Tx.it,Tx.st,Xg,ZT,hap,k0,hbQ]
  |some w=>
   obtain⟨q1,q2,q3,q4⟩:=w
   dsimp only at hap
   refine⟨[.arr e4,.arr [fR (.gsl 6 i2 1 0 i2) (.gsl 7 i2 64 0 i2) 0#64 0],.arr (bS S++[.bool true]),.arr (rS S++[ZaU s]),.arr t0,.arr t1,.arr t2,.arr t3,.arr t4,.arr t5,.arr [x.v],.arr [ZaU s],.arr [rwV (some (q1,q2,q3,q4))],.arr [ZaU s],.arr [ZaU s]],?_⟩
   dsimp only
   generalize P'.map Za9=Q at*
   generalize P.map Za9=A at*
   generalize bS S=B at*
   generalize rS S=D at*
   rw[ZIh]
   simp(maxSteps:=2000000) -implicitDefEqProofs [ZIi,hn,hlt,hia,hx',hxc,hs1,hs2,hb0,lz1,lz2,hz,hfb,hfz,ab,as_,bb,bs,hbA,w1,rwV,bb0,bs0,hxc,ZIt,ZIn,ZIo,UE,Tx.E,Tx.D,Tx.mv,Tx.nk,Tx.fa,Tx.ld,Tx.ia,Tx.la,Tx.al,Tx.ct,Tx.ex,Tx.it,Tx.st,Xg,ZT,hap,k0,hbQ]
 rw[if_neg k0]
 by_cases k2:x.Kind.n=2
 ·rw[if_pos k2]
  obtain⟨act,hact⟩:=ZyL hgx.nm k2
  have hco:WZ m x.A.n=act.Code.l:=by unfold WZ;rw[hact]
  have haf:=ZIv m hb hc x.A.n act hact s
  rw[←hco]at haf
  generalize Y1 m (WZ m x.A.n) s=q at haf⊢
  obtain⟨o,j,e⟩:=q
  simp only at haf⊢
  have m1:=ZIj P .perm x.Yes.n (by omega) (by omega) (by omega) o
  have hb1:=fun k=>ZIg k (atP P x.Yes.n.toNat o)
  by_cases he:e=0
  ·rw[if_pos he]at haf⊢
   refine⟨[],?_⟩
   dsimp only
   generalize (atP P x.Yes.n.toNat o).map Za9=A1 at*
   generalize P.map Za9=A at*
   generalize bS S=B at*
   generalize rS S=D at*
   rw[ZIh]
   simp(maxSteps:=2000000) -implicitDefEqProofs [ZIi,hn,hlt,hia,hx',hxc,hs1,hs2,hb0,lz1,lz2,hz,hfb,hfz,ab,as_,bb,bs,hbA,w1,rwV,bb0,bs0,hxc,ZIt,ZIn,ZIo,UE,Tx.E,Tx.D,Tx.mv,Tx.nk,Tx.fa,Tx.ld,Tx.ia,Tx.la,Tx.al,Tx.ct,Tx.ex,Tx.it,Tx.st,Xg,ZT,haf,m1,hb1,k2]
  ·rw[if_neg he]at haf⊢
   refine⟨[.arr e4,.arr [fR (.gsl 6 i2 1 0 i2) (.gsl 7 i2 64 0 i2) 0#64 0],.arr (bS S++[.bool true]),.arr (rS S++[ZaU s]),.arr t0,.arr t1,.arr t2,.arr t3,.arr t4,.arr t5,.arr [x.v],.arr [ZaU s],.arr [rwV (some (5,x.A.n,j,e))],.arr [ZaU o],.arr [ZaU s]],?_⟩
   dsimp only
   generalize (atP P x.Yes.n.toNat o).map Za9=A1 at*
   generalize P.map Za9=A at*
   generalize bS S=B at*
   generalize rS S=D at*
   rw[ZIh]
   simp(maxSteps:=2000000) -implicitDefEqProofs [ZIi,hn,hlt,hia,hx',hxc,hs1,hs2,hb0,lz1,lz2,hz,hfb,hfz,ab,as_,bb,bs,hbA,w1,rwV,bb0,bs0,hxc,ZIt,ZIn,ZIo,UE,Tx.E,Tx.D,Tx.mv,Tx.nk,Tx.fa,Tx.ld,Tx.ia,Tx.la,Tx.al,Tx.ct,Tx.ex,Tx.it,Tx.st,Xg,ZT,haf,m1,hb1,k2]
 rw[if_neg k2]
 obtain⟨n0,n1⟩:=hgx.no k2
 by_cases k1:x.Kind.n=1
 ·rw[if_pos k1]
  have haf:=ZIB m hb hc x.Code (ZfN (hgx.code k1) (by omega)) s
  generalize Y1 m x.Code.l s=q at haf⊢
  obtain⟨o,j,e⟩:=q
  simp only at haf⊢
  have m1:=ZIj P .perm x.Yes.n (by omega) (by omega) (by omega) o
  have m2:=ZIj (atP P x.Yes.n.toNat o) .perm x.No.n (by omega) (by simp[hP];omega) (by simp[hP];omega) o
  have hb1:=fun k=>ZIg k (atP P x.Yes.n.toNat o)
  have hb2:=fun k=>ZIg k (atP (atP P x.Yes.n.toNat o) x.No.n.toNat o)
  have hbw: ∀fr,Zf ((134,.int .i64 j)::(133,.int .i64 (i:Int))::(132,.int .i64 p)::fr) (.build [.bool false,.int .i64 0,.int .i64 0,.int .i64 0] [(0,1,.c (.bool true)),(1,1,.t 132),(2,1,.t 133),(3,1,.t 134)])=some (.agg [.bool true,.int .i64 p,.int .i64 (i:Int),.int .i64 j]):=fun fr=>by simp[Zf,ZC]
  by_cases he:e=0
  ·rw[if_pos he]
   refine⟨[],?_⟩
   dsimp only
   generalize (atP (atP P x.Yes.n.toNat o) x.No.n.toNat o).map Za9=A2 at*
   generalize (atP P x.Yes.n.toNat o).map Za9=A1 at*
   generalize P.map Za9=A at*
   generalize bS S=B at*
   generalize rS S=D at*
   rw[ZIh]
   simp(maxSteps:=2000000) -implicitDefEqProofs [ZIi,hn,hlt,hia,hx',hxc,hs1,hs2,hb0,lz1,lz2,hz,hfb,hfz,ab,as_,bb,bs,hbA,w1,rwV,bb0,bs0,hxc,ZIt,ZIn,ZIo,UE,Tx.E,Tx.D,Tx.mv,Tx.nk,Tx.fa,Tx.ld,Tx.ia,Tx.la,Tx.al,Tx.ct,Tx.ex,Tx.it,Tx.st,Xg,ZT,haf,m1,m2,hb1,hb2,he,k1]
  ·rw[if_neg he]
   refine⟨[.arr e4,.arr [fR (.gsl 6 i2 1 0 i2) (.gsl 7 i2 64 0 i2) 0#64 0],.arr (bS S++[.bool true]),.arr (rS S++[ZaU s]),.arr t0,.arr t1,.arr t2,.arr t3,.arr t4,.arr t5,.arr [x.v],.arr [ZaU s],.arr [rwV (some (p,(i:Int),j,e))],.arr [ZaU s],.arr [ZaU s],.arr [ZaU o]],?_⟩
   dsimp only
   generalize (atP (atP P x.Yes.n.toNat o) x.No.n.toNat o).map Za9=A2 at*
   generalize (atP P x.Yes.n.toNat o).map Za9=A1 at*
   generalize P.map Za9=A at*
   generalize bS S=B at*
   generalize rS S=D at*
   rw[ZIh]
   simp(maxSteps:=2000000) -implicitDefEqProofs [ZIi,hn,hlt,hia,hx',hxc,hs1,hs2,hb0,lz1,lz2,hz,hfb,hfz,ab,as_,bb,bs,hbA,w1,rwV,bb0,bs0,hxc,ZIt,ZIn,ZIo,UE,Tx.E,Tx.D,Tx.mv,Tx.nk,Tx.fa,Tx.ld,Tx.ia,Tx.la,Tx.al,Tx.ct,Tx.ex,Tx.it,Tx.st,Xg,ZT,haf,m1,m2,hb1,hb2,hbw,he,k1]
 rw[if_neg k1]
 have hsl:(Xl m x.A.n).isSome=true:=by
  have:=hgx.nm
  unfold YZ at this
  rwa[if_neg k0,if_neg k2,if_neg k1]at this
 obtain⟨a0,a1⟩:=ZGU hc hsl
 have a64:x.A.n<(64:Nat):=by omega
 have hi64:=fun B ep j o=>iA (B:=B) (ep:=ep) (j:=j) (o:=o) (n:=64) a0 a64
 have sw:=ZG3 s a0 a1
 have sg:=ZIs s a0 a1
 have m1:=ZIj P .perm x.Yes.n (by omega) (by omega) (by omega) (VY s x.A.n)
 have m2:=ZIj (atP P x.Yes.n.toNat (VY s x.A.n)) .perm x.No.n (by omega) (by simp[hP];omega) (by simp[hP];omega) (Va s x.A.n)
 have hb1:=fun k=>ZIg k (atP P x.Yes.n.toNat (VY s x.A.n))
 have hb2:=fun k=>ZIg k (atP (atP P x.Yes.n.toNat (VY s x.A.n)) x.No.n.toNat (Va s x.A.n))
 refine⟨[],?_⟩
 dsimp only
 generalize (atP (atP P x.Yes.n.toNat (VY s x.A.n)) x.No.n.toNat (Va s x.A.n)).map Za9=A2 at*
 generalize (atP P x.Yes.n.toNat (VY s x.A.n)).map Za9=A1 at*
 generalize P.map Za9=A at*
 generalize bS S=B at*
 generalize rS S=D at*
 rw[ZIh]
 simp(maxSteps:=2000000) -implicitDefEqProofs [ZIi,hn,hlt,hia,hx',hxc,hs1,hs2,hb0,lz1,lz2,hz,hfb,hfz,ab,as_,bb,bs,hbA,w1,rwV,bb0,bs0,hxc,ZIt,ZIn,ZIo,UE,Tx.E,Tx.D,Tx.mv,Tx.nk,Tx.fa,Tx.ld,Tx.ia,Tx.la,Tx.al,Tx.ct,Tx.ex,Tx.it,Tx.st,Xg,ZT,m1,m2,hb1,hb2,hi64,sw,sg,k0,k1,k2]
end
end Go.VE.Un
namespace Go.VE.Un
open Go.VE
section
variable (m : Zb) (hm : Clo m) (hb : m.Insts.l.length ≤ 10000000) (hc : Yr m = none) (p : Int) (N : GL Zs) (hcl : Ze (GL.v 6 Zs.v N) = true) (n : Nat) (hn : N.l.length = n) (hn2 : n ≤ 32) (hg : ∀ i x, Zh N.l i = some x → JD m n i x) (e1 e4 : List V)
include hm hb hc hcl hn hn2 hg in
set_option maxRecDepth 100000 in
set_option maxHeartbeats 4000000 in
theorem ZJD(i2:Nat)(hi3:0+1=i2)(hi2:0<n)(x:Zs)(hx':Zh N.l 0=some x)(P:List (Bool ×Sl))(hP:P.length=n+1)(s:Sl)(hpp:P.getD 0 (false,0)=(true,s)): ∃hh T,((∃a b c d e,T=[.arr a,.arr b,.arr c,.arr d,.arr e])∨∃a b c d e f,T=[.arr a,.arr b,.arr c,.arr d,.arr e,.arr f])∧(orc vp).loop 0 [3,6,7,8,9,10,11,12] ZIk [(3,.ptr 0 1 0 0),(6,.ptr 2 1 0 0),(7,.ptr 3 1 0 0),(8,GL.v 6 Zs.v N),(9,.int .i64 p),(10,.sl 65 (P.map Za9) .perm),(11,.ptr 5 1 0 0),(12,.int .i64 0)] [.arr [m.v],.arr e1,.arr [fR (.sl 1 [] .nl) (.sl 64 [] .nl) 0#64 0],.arr [rwV none],.arr e4,.arr [fR (.sl 1 [] .nl) (.sl 64 [] .nl) 0#64 0]]=match Vr m p 0 x P s with
 |(none,P')=>(orc vp).loop 0 [3,6,7,8,9,10,11,12] ZIk [(3,.ptr 0 1 0 0),(6,.ptr 2 1 0 0),(7,.ptr 3 1 0 0),(8,GL.v 6 Zs.v N),(9,.int .i64 p),(10,.sl 65 (P'.map Za9) .perm),(11,.ptr 5 1 0 0),(12,.int .i64 i2)] ([.arr [m.v],.arr e1,.arr [fR (.sl 1 [] .nl) (.sl 64 [] .nl) 0#64 0],.arr [rwV none],.arr e4,.arr [fR (.gsl 6 i2 1 0 i2) (.gsl 7 i2 64 0 i2) 0#64 0],.arr (bS [(true,s)]),.arr (rS [(true,s)])]++T)
 |(some w,_)=>some (.ret,[(6,.ptr 2 1 0 0),(7,.ptr 3 1 0 0)],.arr [m.v]::.arr e1::.arr [fR (.sl 1 [] .nl) (.sl 64 [] .nl) 0#64 0]::.arr [rwV (some w)]::hh):=by
 have hlt:(0:Int)<n:=by omega
 have hxc:=Xc hcl hx'
 have hgx:=hg _ _ hx'
 have w1:IntKind.i64.wrap (1)=(i2:Int):=by rw[ZK (by omega) (by omega)];omega
 have hpl:0<P.length:=by omega
 have hia:Yb 65 (.sl 65 (P.map Za9) .perm) (.int .i64 0)=some (.eptr (Za9 (true,s)) 0 .perm):=by
  rw[Zfc]
  unfold Zh
  rw[if_pos (by omega),show(0:Int).toNat=0 from by omega,List.getElem?_map,←hpp,List.getD_eq_getElem?_getD,List.getElem?_eq_getElem hpl];rfl
 have hs1:=fun fr=>slK fr 1 44 (.bool true) rfl rfl
 have hs2:=fun fr=>slK fr 64 54 (ZaU s) (by simp[ZaU,bsV,V.cells]) (ZA1 s)
 have hb0: ∀fr,Zf fr (.build [.bool false,.int .i64 0,.int .i64 0,.int .i64 0] [])=some (.agg [.bool false,.int .i64 0,.int .i64 0,.int .i64 0]):=fun _=>rfl
 have lz1: ∀(h:Zg) v,Wl h 1 (.sl 1 [v] .ce)=some [v]:=fun _ _=>rfl
 have lz2: ∀(h:Zg) v,Wl h 64 (.sl 64 [v] .ce)=some [v]:=fun _ _=>rfl
 have hz:=ZGK
 have hfb:=ZJm
 have hfz:=ZIZ
 have hbA:=fun k=>ZIg k P
 have bb:=fun k=>ZIm k [(true,s)]
 have bs:=fun k=>ZIl k [(true,s)]
 have h1:i2=1:=by omega
 have eb:bS [(true,s)]=[.bool true]:=rfl
 have es:rS [(true,s)]=[ZaU s]:=rfl
 have ab: ∀a b c d e f,X3 0 [a,b,c,d,e,f] 1 1 (.sl 1 [] .nl) [.bool true]=some (.gsl 6 i2 1 0 i2,[a,b,c,d,e,f,.arr [.bool true]]):=fun a b c d e f=>by
  subst h1;simp[X3,Qh,YC]
 have as_: ∀a b c d e f g,X3 0 [a,b,c,d,e,f,g] 64 64 (.sl 64 [] .nl) [ZaU s]=some (.gsl 7 i2 64 0 i2,[a,b,c,d,e,f,g,.arr [ZaU s]]):=fun a b c d e f g=>by
  subst h1;simp[X3,Qh,YC]
 have hgl: ∀fr B D T,X1 vp [.arr [m.v],.arr e1,.arr [fR (.sl 1 [] .nl) (.sl 64 [] .nl) 0#64 0],.arr [rwV none],.arr e4,.arr [fR (.sl 1 [] .nl) (.sl 64 [] .nl) 0#64 0]] fr (.arr [m.v]::.arr e1::.arr [fR (.sl 1 [] .nl) (.sl 64 [] .nl) 0#64 0]::.arr [rwV none]::.arr e4::.arr [fR (.gsl 6 i2 1 0 i2) (.gsl 7 i2 64 0 i2) 0#64 0]::B::D::T)=.arr [m.v]::.arr e1::.arr [fR (.sl 1 [] .nl) (.sl 64 [] .nl) 0#64 0]::.arr [rwV none]::.arr e4::.arr [fR (.gsl 6 i2 1 0 i2) (.gsl 7 i2 64 0 i2) 0#64 0]::B::D::T:=fun fr B D T=>ZfR (by
  have:(Je (.arr [fR (.gsl 6 i2 1 0 i2) (.gsl 7 i2 64 0 i2) 0#64 0]) (.arr [fR (.sl 1 [] .nl) (.sl 64 [] .nl) 0#64 0])||Vj 6 (.arr [fR (.gsl 6 i2 1 0 i2) (.gsl 7 i2 64 0 i2) 0#64 0]))=false:=rfl
  simp only[ZjR,Zfg,List.length_cons,List.length_nil,this];simp)
 simp only[rwV]at hgl
 simp only[eb,es]
 obtain⟨y0,y1⟩:=hgx.yes
 unfold Vr
 by_cases k0:x.Kind.n=0
 ·obtain⟨n0,n1⟩:=hgx.no (by omega)
  have hap:=ZIN m hm hb hc n hn2 p 0 x hgx k0 P hP hi2 true s hpp
  simp only[Int.ofNat_zero,Int.natCast_zero]at hap
  rw[if_pos k0]
  have hQ:=ZIg
  generalize UC m p (0:Int) x P s=q at hap⊢
  obtain⟨o,P'⟩:=q
  have hbQ:=fun k=>ZIg k P'
  cases o with
  |none=>
   dsimp only at hap
   refine⟨[],[.arr [x.v],.arr [ZaU s],.arr [rwV none],.arr [ZaU s],.arr [ZaU s]],.inl ⟨_,_,_,_,_,rfl⟩,?_⟩
   dsimp only
   generalize P'.map Za9=Q at*
   generalize P.map Za9=A at*
   rw[ZIh]
   simp(maxSteps:=2000000) -implicitDefEqProofs [ZIi,hn,hlt,hia,hx',hxc,hs1,hs2,hb0,lz1,lz2,hz,hfb,hfz,ab,as_,bb,bs,hbA,w1,rwV,hgl,hi2,hxc,ZIt,ZIn,ZIo,UE,Tx.E,Tx.D,Tx.mv,Tx.nk,Tx.fa,Tx.ld,Tx.ia,Tx.la,Tx.al,Tx.ct,Tx.ex,Tx.it,Tx.st,Xg,ZT,hap,k0,hbQ]
  |some w=>
   obtain⟨q1,q2,q3,q4⟩:=w
   dsimp only at hap
   refine⟨[.arr e4,.arr [fR (.gsl 6 i2 1 0 i2) (.gsl 7 i2 64 0 i2) 0#64 0],.arr ([.bool true]),.arr ([ZaU s]),.arr [x.v],.arr [ZaU s],.arr [rwV (some (q1,q2,q3,q4))],.arr [ZaU s],.arr [ZaU s]],[.arr [],.arr [],.arr [],.arr [],.arr []],.inl ⟨_,_,_,_,_,rfl⟩,?_⟩
   dsimp only
   generalize P'.map Za9=Q at*
   generalize P.map Za9=A at*
   rw[ZIh]
   simp(maxSteps:=2000000) -implicitDefEqProofs [ZIi,hn,hlt,hia,hx',hxc,hs1,hs2,hb0,lz1,lz2,hz,hfb,hfz,ab,as_,bb,bs,hbA,w1,rwV,hgl,hi2,hxc,ZIt,ZIn,ZIo,UE,Tx.E,Tx.D,Tx.mv,Tx.nk,Tx.fa,Tx.ld,Tx.ia,Tx.la,Tx.al,Tx.ct,Tx.ex,Tx.it,Tx.st,Xg,ZT,hap,k0,hbQ]
 rw[if_neg k0]
 by_cases k2:x.Kind.n=2
 ·rw[if_pos k2]
  obtain⟨act,hact⟩:=ZyL hgx.nm k2
  have hco:WZ m x.A.n=act.Code.l:=by unfold WZ;rw[hact]
  have haf:=ZIv m hb hc x.A.n act hact s
  rw[←hco]at haf
  generalize Y1 m (WZ m x.A.n) s=q at haf⊢
  obtain⟨o,j,e⟩:=q
  simp only at haf⊢
  have m1:=ZIj P .perm x.Yes.n (by omega) (by omega) (by omega) o
  have hb1:=fun k=>ZIg k (atP P x.Yes.n.toNat o)
  by_cases he:e=0
  ·rw[if_pos he]at haf⊢
   refine⟨[],[.arr [x.v],.arr [ZaU s],.arr [rwV none],.arr [ZaU o],.arr [ZaU s]],.inl ⟨_,_,_,_,_,rfl⟩,?_⟩
   dsimp only
   generalize (atP P x.Yes.n.toNat o).map Za9=A1 at*
   generalize P.map Za9=A at*
   rw[ZIh]
   simp(maxSteps:=2000000) -implicitDefEqProofs [ZIi,hn,hlt,hia,hx',hxc,hs1,hs2,hb0,lz1,lz2,hz,hfb,hfz,ab,as_,bb,bs,hbA,w1,rwV,hgl,hi2,hxc,ZIt,ZIn,ZIo,UE,Tx.E,Tx.D,Tx.mv,Tx.nk,Tx.fa,Tx.ld,Tx.ia,Tx.la,Tx.al,Tx.ct,Tx.ex,Tx.it,Tx.st,Xg,ZT,haf,m1,hb1,k2]
  ·rw[if_neg he]at haf⊢
   refine⟨[.arr e4,.arr [fR (.gsl 6 i2 1 0 i2) (.gsl 7 i2 64 0 i2) 0#64 0],.arr ([.bool true]),.arr ([ZaU s]),.arr [x.v],.arr [ZaU s],.arr [rwV (some (5,x.A.n,j,e))],.arr [ZaU o],.arr [ZaU s]],[.arr [],.arr [],.arr [],.arr [],.arr []],.inl ⟨_,_,_,_,_,rfl⟩,?_⟩
   dsimp only
   generalize (atP P x.Yes.n.toNat o).map Za9=A1 at*
   generalize P.map Za9=A at*
   rw[ZIh]
   simp(maxSteps:=2000000) -implicitDefEqProofs [ZIi,hn,hlt,hia,hx',hxc,hs1,hs2,hb0,lz1,lz2,hz,hfb,hfz,ab,as_,bb,bs,hbA,w1,rwV,hgl,hi2,hxc,ZIt,ZIn,ZIo,UE,Tx.E,Tx.D,Tx.mv,Tx.nk,Tx.fa,Tx.ld,Tx.ia,Tx.la,Tx.al,Tx.ct,Tx.ex,Tx.it,Tx.st,Xg,ZT,haf,m1,hb1,k2]
 rw[if_neg k2]
 obtain⟨n0,n1⟩:=hgx.no k2
 by_cases k1:x.Kind.n=1
 ·rw[if_pos k1]
  have haf:=ZIB m hb hc x.Code (ZfN (hgx.code k1) (by omega)) s
  generalize Y1 m x.Code.l s=q at haf⊢
  obtain⟨o,j,e⟩:=q
  simp only at haf⊢
  have m1:=ZIj P .perm x.Yes.n (by omega) (by omega) (by omega) o
  have m2:=ZIj (atP P x.Yes.n.toNat o) .perm x.No.n (by omega) (by simp[hP];omega) (by simp[hP];omega) o
  have hb1:=fun k=>ZIg k (atP P x.Yes.n.toNat o)
  have hb2:=fun k=>ZIg k (atP (atP P x.Yes.n.toNat o) x.No.n.toNat o)
  have hbw: ∀fr,Zf ((134,.int .i64 j)::(133,.int .i64 (0:Int))::(132,.int .i64 p)::fr) (.build [.bool false,.int .i64 0,.int .i64 0,.int .i64 0] [(0,1,.c (.bool true)),(1,1,.t 132),(2,1,.t 133),(3,1,.t 134)])=some (.agg [.bool true,.int .i64 p,.int .i64 (0:Int),.int .i64 j]):=fun fr=>by simp[Zf,ZC]
  by_cases he:e=0
  ·rw[if_pos he]
   refine⟨[],[.arr [x.v],.arr [ZaU s],.arr [rwV none],.arr [ZaU s],.arr [ZaU s],.arr [ZaU o]],.inr ⟨_,_,_,_,_,_,rfl⟩,?_⟩
   dsimp only
   generalize (atP (atP P x.Yes.n.toNat o) x.No.n.toNat o).map Za9=A2 at*
   generalize (atP P x.Yes.n.toNat o).map Za9=A1 at*
   generalize P.map Za9=A at*
   rw[ZIh]
   simp(maxSteps:=2000000) -implicitDefEqProofs [ZIi,hn,hlt,hia,hx',hxc,hs1,hs2,hb0,lz1,lz2,hz,hfb,hfz,ab,as_,bb,bs,hbA,w1,rwV,hgl,hi2,hxc,ZIt,ZIn,ZIo,UE,Tx.E,Tx.D,Tx.mv,Tx.nk,Tx.fa,Tx.ld,Tx.ia,Tx.la,Tx.al,Tx.ct,Tx.ex,Tx.it,Tx.st,Xg,ZT,haf,m1,m2,hb1,hb2,he,k1]
  ·rw[if_neg he]
   refine⟨[.arr e4,.arr [fR (.gsl 6 i2 1 0 i2) (.gsl 7 i2 64 0 i2) 0#64 0],.arr ([.bool true]),.arr ([ZaU s]),.arr [x.v],.arr [ZaU s],.arr [rwV (some (p,(0:Int),j,e))],.arr [ZaU s],.arr [ZaU s],.arr [ZaU o]],[.arr [],.arr [],.arr [],.arr [],.arr []],.inl ⟨_,_,_,_,_,rfl⟩,?_⟩
   dsimp only
   generalize (atP (atP P x.Yes.n.toNat o) x.No.n.toNat o).map Za9=A2 at*
   generalize (atP P x.Yes.n.toNat o).map Za9=A1 at*
   generalize P.map Za9=A at*
   rw[ZIh]
   simp(maxSteps:=2000000) -implicitDefEqProofs [ZIi,hn,hlt,hia,hx',hxc,hs1,hs2,hb0,lz1,lz2,hz,hfb,hfz,ab,as_,bb,bs,hbA,w1,rwV,hgl,hi2,hxc,ZIt,ZIn,ZIo,UE,Tx.E,Tx.D,Tx.mv,Tx.nk,Tx.fa,Tx.ld,Tx.ia,Tx.la,Tx.al,Tx.ct,Tx.ex,Tx.it,Tx.st,Xg,ZT,haf,m1,m2,hb1,hb2,hbw,he,k1]
 rw[if_neg k1]
 have hsl:(Xl m x.A.n).isSome=true:=by
  have:=hgx.nm
  unfold YZ at this
  rwa[if_neg k0,if_neg k2,if_neg k1]at this
 obtain⟨a0,a1⟩:=ZGU hc hsl
 have a64:x.A.n<(64:Nat):=by omega
 have hi64:=fun B ep j o=>iA (B:=B) (ep:=ep) (j:=j) (o:=o) (n:=64) a0 a64
 have sw:=ZG3 s a0 a1
 have sg:=ZIs s a0 a1
 have m1:=ZIj P .perm x.Yes.n (by omega) (by omega) (by omega) (VY s x.A.n)
 have m2:=ZIj (atP P x.Yes.n.toNat (VY s x.A.n)) .perm x.No.n (by omega) (by simp[hP];omega) (by simp[hP];omega) (Va s x.A.n)
 have hb1:=fun k=>ZIg k (atP P x.Yes.n.toNat (VY s x.A.n))
 have hb2:=fun k=>ZIg k (atP (atP P x.Yes.n.toNat (VY s x.A.n)) x.No.n.toNat (Va s x.A.n))
 refine⟨[],[.arr [x.v],.arr [ZaU s],.arr [rwV none],.arr [ZaU (VY s x.A.n)],.arr [ZaU (Va s x.A.n)]],.inl ⟨_,_,_,_,_,rfl⟩,?_⟩
 dsimp only
 generalize (atP (atP P x.Yes.n.toNat (VY s x.A.n)) x.No.n.toNat (Va s x.A.n)).map Za9=A2 at*
 generalize (atP P x.Yes.n.toNat (VY s x.A.n)).map Za9=A1 at*
 generalize P.map Za9=A at*
 rw[ZIh]
 simp(maxSteps:=2000000) -implicitDefEqProofs [ZIi,hn,hlt,hia,hx',hxc,hs1,hs2,hb0,lz1,lz2,hz,hfb,hfz,ab,as_,bb,bs,hbA,w1,rwV,hgl,hi2,hxc,ZIt,ZIn,ZIo,UE,Tx.E,Tx.D,Tx.mv,Tx.nk,Tx.fa,Tx.ld,Tx.ia,Tx.la,Tx.al,Tx.ct,Tx.ex,Tx.it,Tx.st,Xg,ZT,m1,m2,hb1,hb2,hi64,sw,sg,k0,k1,k2]
end
end Go.VE.Un
namespace Go.VE.Un
open Go.VE
section
variable (m : Zb) (hm : Clo m) (hb : m.Insts.l.length ≤ 10000000) (hc : Yr m = none) (p : Int) (N : GL Zs) (hcl : Ze (GL.v 6 Zs.v N) = true) (n : Nat) (hn : N.l.length = n) (hn2 : n ≤ 32) (hg : ∀ i x, Zh N.l i = some x → JD m n i x) (e1 e4 : List V)
include hn in
theorem ZJg(T:List Blk)(hno:(∀(i i2:Nat) (hi3:i+1=i2) (hi2:i<n) (x:Zs) (hx':Zh N.l (i:Int)=some x) (P S:List (Bool ×Sl)) (hP:P.length=n+1) (hS:S.length=i) (s:Sl) (hpp:P.getD i (false,0)=(false,s)),(orc vp).loop 0 [3,6,7,8,9,10,11,12] ZIk [(3,.ptr 0 1 0 0),(6,.ptr 2 1 0 0),(7,.ptr 3 1 0 0),(8,GL.v 6 Zs.v N),(9,.int .i64 p),(10,.sl 65 (P.map Za9) .perm),(11,.ptr 5 1 0 0),(12,.int .i64 i)] (.arr [m.v]::.arr e1::.arr [fR (.sl 1 [] .nl) (.sl 64 [] .nl) 0#64 0]::.arr [rwV none]::.arr e4::.arr [fR (.gsl 6 i 1 0 i) (.gsl 7 i 64 0 i) 0#64 0]::.arr (bS S)::.arr (rS S)::T)=(orc vp).loop 0 [3,6,7,8,9,10,11,12] ZIk [(3,.ptr 0 1 0 0),(6,.ptr 2 1 0 0),(7,.ptr 3 1 0 0),(8,GL.v 6 Zs.v N),(9,.int .i64 p),(10,.sl 65 (P.map Za9) .perm),(11,.ptr 5 1 0 0),(12,.int .i64 i2)] (.arr [m.v]::.arr e1::.arr [fR (.sl 1 [] .nl) (.sl 64 [] .nl) 0#64 0]::.arr [rwV none]::.arr e4::.arr [fR (.gsl 6 i2 1 0 i2) (.gsl 7 i2 64 0 i2) 0#64 0]::.arr (bS (S++[(false,s)]))::.arr (rS (S++[(false,s)]))::T)))
 (hyes:(∀(i i2:Nat) (hi3:i+1=i2) (hi2:i<n) (x:Zs) (hx':Zh N.l (i:Int)=some x) (P S:List (Bool ×Sl)) (hP:P.length=n+1) (hS:S.length=i) (s:Sl) (hpp:P.getD i (false,0)=(true,s)),∃hh,(orc vp).loop 0 [3,6,7,8,9,10,11,12] ZIk [(3,.ptr 0 1 0 0),(6,.ptr 2 1 0 0),(7,.ptr 3 1 0 0),(8,GL.v 6 Zs.v N),(9,.int .i64 p),(10,.sl 65 (P.map Za9) .perm),(11,.ptr 5 1 0 0),(12,.int .i64 i)] (.arr [m.v]::.arr e1::.arr [fR (.sl 1 [] .nl) (.sl 64 [] .nl) 0#64 0]::.arr [rwV none]::.arr e4::.arr [fR (.gsl 6 i 1 0 i) (.gsl 7 i 64 0 i) 0#64 0]::.arr (bS S)::.arr (rS S)::T)=match Vr m p i x P s with
   |(none,P')=>(orc vp).loop 0 [3,6,7,8,9,10,11,12] ZIk [(3,.ptr 0 1 0 0),(6,.ptr 2 1 0 0),(7,.ptr 3 1 0 0),(8,GL.v 6 Zs.v N),(9,.int .i64 p),(10,.sl 65 (P'.map Za9) .perm),(11,.ptr 5 1 0 0),(12,.int .i64 i2)] (.arr [m.v]::.arr e1::.arr [fR (.sl 1 [] .nl) (.sl 64 [] .nl) 0#64 0]::.arr [rwV none]::.arr e4::.arr [fR (.gsl 6 i2 1 0 i2) (.gsl 7 i2 64 0 i2) 0#64 0]::.arr (bS (S++[(true,s)]))::.arr (rS (S++[(true,s)]))::T)
   |(some w,_)=>some (.ret,[(6,.ptr 2 1 0 0),(7,.ptr 3 1 0 0)],.arr [m.v]::.arr e1::.arr [fR (.sl 1 [] .nl) (.sl 64 [] .nl) 0#64 0]::.arr [rwV (some w)]::hh))): ∀(r:List Zs) (i:Nat) (P S:List (Bool ×Sl)),N.l.drop i=r→i≤n→P.length=n+1→S.length=i→∃fr hh,(orc vp).loop 0 [3,6,7,8,9,10,11,12] ZIk [(3,.ptr 0 1 0 0),(6,.ptr 2 1 0 0),(7,.ptr 3 1 0 0),(8,GL.v 6 Zs.v N),(9,.int .i64 p),(10,.sl 65 (P.map Za9) .perm),(11,.ptr 5 1 0 0),(12,.int .i64 i)] (.arr [m.v]::.arr e1::.arr [fR (.sl 1 [] .nl) (.sl 64 [] .nl) 0#64 0]::.arr [rwV none]::.arr e4::.arr [fR (.gsl 6 i 1 0 i) (.gsl 7 i 64 0 i) 0#64 0]::.arr (bS S)::.arr (rS S)::T)=some (match X2 m p r i P with
   |(none,P',S')=>(.brk 0,(3,.ptr 0 1 0 0)::(6,.ptr 2 1 0 0)::(7,.ptr 3 1 0 0)::(8,GL.v 6 Zs.v N)::(9,.int .i64 p)::(10,.sl 65 (P'.map Za9) .perm)::(11,.ptr 5 1 0 0)::fr,.arr [m.v]::.arr e1::.arr [fR (.sl 1 [] .nl) (.sl 64 [] .nl) 0#64 0]::.arr [rwV none]::.arr e4::.arr [fR (.gsl 6 n 1 0 n) (.gsl 7 n 64 0 n) 0#64 0]::.arr (bS (S++S'))::.arr (rS (S++S'))::T)
   |(some w,_)=>(.ret,[(6,.ptr 2 1 0 0),(7,.ptr 3 1 0 0)],.arr [m.v]::.arr e1::.arr [fR (.sl 1 [] .nl) (.sl 64 [] .nl) 0#64 0]::.arr [rwV (some w)]::hh)):=by
 intro r
 induction r with
 |nil=>
  intro i P S hd hi hP hS
  have hin:i=n:=by
   have:N.l.length≤i:=List.drop_eq_nil_iff.1 hd
   omega
  subst hin
  refine⟨[(12,.int .i64 i),(35,.bool false)],[],?_⟩
  simp only[X2,List.append_nil]
  generalize P.map Za9=A at*
  rw[ZIh]
  simp -implicitDefEqProofs [ZIi,hn]
 |cons x r ih=>
  intro i P S hd hi hP hS
  have hi2:i<n:=by
   have:i<N.l.length:=by
    rcases Nat.lt_or_ge i N.l.length with h|h
    ·exact h
    ·rw[List.drop_eq_nil_of_le h]at hd;simp at hd
   omega
  have hx:N.l[i]? =some x:=by
   have:=congrArg (fun q=>q[0]?) hd
   simpa using this
  have hx':Zh N.l (i:Int)=some x:=by simp[Zh,hx]
  have hd':N.l.drop (i+1)=r:=by
   have:=congrArg (List.drop 1) hd
   simpa using this
  simp only[X2]
  generalize hpp:P.getD i (false,0)=q
  obtain⟨re,s⟩:=q
  have ih:=fun P hP=>ih (i+1) P (S++[(re,s)]) hd' (by omega) hP (by simp[hS])
  cases re with
  |false=>
   obtain⟨fr,hh,ih⟩:=ih P hP
   refine⟨fr,hh,?_⟩
   rw[hno i (i+1) rfl hi2 x hx' P S hP hS s hpp,ih]
   simp only[if_true]
   generalize X2 m p r (i+1) P=q
   obtain⟨o,P2,S2⟩:=q
   cases o<;>simp only[List.append_assoc,List.singleton_append]
  |true=>
   obtain⟨h1,hy⟩:=hyes i (i+1) rfl hi2 x hx' P S hP hS s hpp
   have hnl:=J3 m p i x P s
   simp only[Bool.true_eq_false,if_false]
   generalize Vr m p (i:Int) x P s=q at hy hnl⊢
   obtain⟨o,P'⟩:=q
   cases o with
   |some w=>exact⟨[],h1,hy⟩
   |none=>
    simp only at hy hnl⊢
    obtain⟨fr,hh,ih⟩:=ih P' (by rw[hnl,hP])
    refine⟨fr,hh,?_⟩
    rw[hy,ih]
    generalize X2 m p r (i+1) P'=q
    obtain⟨o,P2,S2⟩:=q
    cases o<;>simp only[List.append_assoc,List.singleton_append]
include hm hb hc hcl hn hn2 hg in
theorem ZJJ(P:List (Bool ×Sl))(hP:P.length=n+1)(s:Sl)(hP0:P.getD 0 (false,0)=(true,s)): ∃fr hh T,
 (orc vp).loop 0 [3,6,7,8,9,10,11,12] ZIk [(3,.ptr 0 1 0 0),(6,.ptr 2 1 0 0),(7,.ptr 3 1 0 0),(8,GL.v 6 Zs.v N),(9,.int .i64 p),(10,.sl 65 (P.map Za9) .perm),(11,.ptr 5 1 0 0),(12,.int .i64 0)] [.arr [m.v],.arr e1,.arr [fR (.sl 1 [] .nl) (.sl 64 [] .nl) 0#64 0],.arr [rwV none],.arr e4,.arr [fR (.sl 1 [] .nl) (.sl 64 [] .nl) 0#64 0]]=some (match X2 m p N.l 0 P with
   |(none,P',S')=>(.brk 0,(3,.ptr 0 1 0 0)::(6,.ptr 2 1 0 0)::(7,.ptr 3 1 0 0)::(8,GL.v 6 Zs.v N)::(9,.int .i64 p)::(10,.sl 65 (P'.map Za9) .perm)::(11,.ptr 5 1 0 0)::fr,.arr [m.v]::.arr e1::.arr [fR (.sl 1 [] .nl) (.sl 64 [] .nl) 0#64 0]::.arr [rwV none]::.arr e4::.arr [if n=0 then fR (.sl 1 [] .nl) (.sl 64 [] .nl) 0#64 0 else fR (.gsl 6 n 1 0 n) (.gsl 7 n 64 0 n) 0#64 0]::(if n=0 then[]else .arr (bS S')::.arr (rS S')::T))
   |(some w,_)=>(.ret,[(6,.ptr 2 1 0 0),(7,.ptr 3 1 0 0)],.arr [m.v]::.arr e1::.arr [fR (.sl 1 [] .nl) (.sl 64 [] .nl) 0#64 0]::.arr [rwV (some w)]::hh)):=by
 match hN:N.l with
 |[]=>
  have h0:n=0:=by rw[←hn,hN];rfl
  refine⟨[(12,.int .i64 0),(35,.bool false)],[],[],?_⟩
  simp only[X2,if_pos h0]
  generalize P.map Za9=A at*
  have hn0:(N.l.length:Int)=0:=by rw[hN];rfl
  rw[ZIh]
  simp -implicitDefEqProofs [ZIi,hn0]
 |x::r=>
  have hne:n≠0:=by rw[←hn,hN];simp
  have hx':Zh N.l 0=some x:=by rw[hN];rfl
  have hd':N.l.drop (0+1)=r:=by rw[hN];rfl
  obtain⟨h1,T,hT,hf⟩:=ZJD m hm hb hc p N hcl n hn hn2 hg e1 e4 1 rfl (by omega) x hx' P hP s hP0
  have hnl:=J3 m p 0 x P s
  simp only[X2,hP0,Bool.true_eq_false,if_false,Int.ofNat_zero,Int.natCast_zero]
  generalize Vr m p 0 x P s=q at hf hnl⊢
  obtain⟨o,P'⟩:=q
  cases o with
  |some w=>exact⟨[],h1,[],hf⟩
  |none=>
   simp only at hf hnl⊢
   have hl: ∃fr hh,(orc vp).loop 0 [3,6,7,8,9,10,11,12] ZIk [(3,.ptr 0 1 0 0),(6,.ptr 2 1 0 0),(7,.ptr 3 1 0 0),(8,GL.v 6 Zs.v N),(9,.int .i64 p),(10,.sl 65 (P'.map Za9) .perm),(11,.ptr 5 1 0 0),(12,.int .i64 (1:Nat))] (.arr [m.v]::.arr e1::.arr [fR (.sl 1 [] .nl) (.sl 64 [] .nl) 0#64 0]::.arr [rwV none]::.arr e4::.arr [fR (.gsl 6 1 1 0 1) (.gsl 7 1 64 0 1) 0#64 0]::.arr (bS [(true,s)])::.arr (rS [(true,s)])::T)=some (match X2 m p r 1 P' with
    |(none,P',S')=>(.brk 0,(3,.ptr 0 1 0 0)::(6,.ptr 2 1 0 0)::(7,.ptr 3 1 0 0)::(8,GL.v 6 Zs.v N)::(9,.int .i64 p)::(10,.sl 65 (P'.map Za9) .perm)::(11,.ptr 5 1 0 0)::fr,.arr [m.v]::.arr e1::.arr [fR (.sl 1 [] .nl) (.sl 64 [] .nl) 0#64 0]::.arr [rwV none]::.arr e4::.arr [fR (.gsl 6 n 1 0 n) (.gsl 7 n 64 0 n) 0#64 0]::.arr (bS ([(true,s)]++S'))::.arr (rS ([(true,s)]++S'))::T)
    |(some w,_)=>(.ret,[(6,.ptr 2 1 0 0),(7,.ptr 3 1 0 0)],.arr [m.v]::.arr e1::.arr [fR (.sl 1 [] .nl) (.sl 64 [] .nl) 0#64 0]::.arr [rwV (some w)]::hh)):=by
    rcases hT with⟨a,b,c,d,e,rfl⟩|⟨a,b,c,d,e,f,rfl⟩
    ·exact ZJg m p N n hn e1 e4 _ (ZJI m p N hcl n hn hn2 hg e1 e4 a b c d e) (ZJu m hm hb hc p N hcl n hn hn2 hg e1 e4 a b c d e) r 1 P' [(true,s)] hd' (by omega) (by rw[hnl,hP]) rfl
    ·exact ZJg m p N n hn e1 e4 _ (ZJK m p N hcl n hn hn2 hg e1 e4 a b c d e f) (ZJC m hm hb hc p N hcl n hn hn2 hg e1 e4 a b c d e f) r 1 P' [(true,s)] hd' (by omega) (by rw[hnl,hP]) rfl
   obtain⟨fr,hh,hl⟩:=hl
   refine⟨fr,hh,T,?_⟩
   refine hf.trans (hl.trans ?_)
   generalize X2 m p r 1 P'=q
   obtain⟨o,P2,S2⟩:=q
   cases o<;>simp only[if_neg hne,List.singleton_append]
end
end Go.VE.Un
namespace Go.VE.Un
open Go.VE
theorem ZIQ{a b:V}{s:Sl}{n:Int}(ha:Ze a=true)(hb:Ze b=true):Ze (fR a b s n)=true:=by
 have h:Zv ((ZjA s).map V.bool++[.int .i64 n])=true:=by
  have h1:=JC (ZjA s)
  generalize (ZjA s).map V.bool=L at h1
  induction L with
  |nil=>rfl
  |cons y r ih=>simp only[Zv,Bool.and_eq_true]at h1;simp only[List.cons_append,Zv,h1.1,ih h1.2,Bool.and_true]
 simp only[fR,Ze,Zv,h,ha,hb,Bool.and_true]
theorem ZJO{d:Nat}{h:Zg}{a b a' b':V}{s:Sl}{n:Int}(ha:frz 0 h d a=some a')(hb:frz 0 h d b=some b'):frz 0 h (d+1) (fR a b s n)=some (fR a' b' s n):=by
 unfold fR
 rw[KZ]
 have hL:Y5 (frz 0 h d) ((ZjA s).map V.bool++[.int .i64 n])=some ((ZjA s).map V.bool++[.int .i64 n]):=XW _ (fun v hv=>UL (by
  rcases List.mem_append.1 hv with hv|hv
  ·obtain⟨b,_,rfl⟩:=List.mem_map.1 hv;rfl
  ·simp only[List.mem_singleton]at hv;subst hv;rfl))
 simp only[Y5,ha,hb,hL,Option.bind_some,Option.map_some]
def ZJN(m:Zb)(n:Nat)(nd:List Zs)(P S:List (Bool ×Sl)):V:=fR (.sl 1 (bS S) (tg n)) (.sl 64 (rS S) (tg n)) (P.getD n (false,0)).2 (Zau m nd)
def ZJA(m:Zb)(n:Nat)(nd:List Zs):Option Wr ×List (Bool ×Sl)×List (Bool ×Sl)→V
 |(some w,_)=>.tup [fR (.sl 1 [] .nl) (.sl 64 [] .nl) 0#64 0,rwV (some w)]
 |(none,P,S)=>.tup [ZJN m n nd P S,rwV none]
set_option maxRecDepth 100000 in
set_option maxHeartbeats 4000000 in
theorem ZI6(m:Zb)(hm:Clo m)(hb:m.Insts.l.length≤10000000)(hc:Yr m=none)(eg:Bool)(s:Sl):
 Zc vp 916 [m.v,.bool eg,ZaU s]=some (ZJA m (ndP m eg).l.length (ndP m eg).l (X2 m (pP eg) (ndP m eg).l 0 (Yk (ndP m eg).l.length s))):=by
 have hok:(Wj m (ndP m eg).l).2=0:=by
  cases eg
  ·exact Zld hc
  ·exact ZlT hc
 have hcl:Ze (GL.v 6 Zs.v (ndP m eg))=true:=by
  cases eg
  ·exact ZgZ hm
  ·exact ZjO hm
 obtain⟨hn2,hg⟩:=ZaQ hok
 have h918:=ZH5 m hm eg
 have hst:=ZJl m hc (ndP m eg) hcl hn2 hg
 have hp:pP eg=(if eg=true then 8 else 7):=rfl
 generalize pP eg=p at*
 generalize ndP m eg=N at*
 obtain⟨n,hn⟩: ∃n,N.l.length=n:=⟨_,rfl⟩
 rw[hn]at hn2 hg⊢
 have w1:IntKind.i64.wrap ((n:Int)+1)=(n:Int)+1:=ZK (by omega) (by omega)
 have hz:=ZI1
 have hmk: ∀a b c d,UW [a,b,c,d] (Za9 (false,0#64)) 65 (.int .i64 ((n:Int)+1)) (.int .i64 ((n:Int)+1))=some (.gsl 4 (n+1) 65 0 (n+1),[a,b,c,d,.arr ((List.replicate (n+1) (false,(0:Sl))).map Za9)]):=fun a b c d=>by
  unfold UW
  simp only
  have e3:((n:Int)+1).toNat=n+1:=by omega
  have e4:(Za9 (false,0#64)).cells.length=65:=by simp[Za9,V.cells]
  rw[if_pos (by unfold YC;omega),e3,List.map_replicate]
  first|rfl|simp[e4]
 have eP:atP (List.replicate (n+1) (false,(0:Sl))) (0:Int).toNat s=Yk n s:=by
  unfold atP Js Yk;simp[List.replicate_succ]
 have hme:=ZIj (List.replicate (n+1) (false,(0:Sl))) .brw 0 (by omega) (by simp) (by simp;omega) s
 rw[eP]at hme
 have c0:YG ((List.replicate (n+1) (false,(0:Sl))).map Za9) (n+1)=some ((List.replicate (n+1) (false,(0:Sl))).map Za9):=Yt (by simp)
 have s0:ZaK (n+1) 0 (n+1) ((List.replicate (n+1) (false,(0:Sl))).map Za9)=some ((List.replicate (n+1) (false,(0:Sl))).map Za9):=Qy (by simp)
 have hcR:=ZIy (List.replicate (n+1) (false,(0:Sl)))
 have hbR:=fun k=>ZIg k (List.replicate (n+1) (false,(0:Sl)))
 obtain⟨fr,hh,T,hl⟩:=ZJJ m hm hb hc p N hcl n hn hn2 hg [ZaU s] ((List.replicate (n+1) (false,(0:Sl))).map Za9) (Yk n s) (by simp[Yk]) s (by simp[Yk])
 have hS:=ZfP m p N.l 0 (Yk n s)
 have hfz:=ZIZ
 have hfb:=ZJm
 have hb0: ∀fr,Zf fr (.build [.bool false,.int .i64 0,.int .i64 0,.int .i64 0] [])=some (.agg [.bool false,.int .i64 0,.int .i64 0,.int .i64 0]):=fun _=>rfl
 have hbS:=fun k=>ZIg k (Yk n s)
 generalize X2 m p N.l 0 (Yk n s)=q at hl hS⊢
 obtain⟨o,P',S'⟩:=q
 have hbP:=fun k=>ZIg k P'
 rw[Za ZJ0]
 cases o with
 |some w=>
  obtain⟨q1,q2,q3,q4⟩:=w
  simp only[ZJA]at hl⊢
  have hc0: ∀(h:Zg) d,frz 0 h d (fR (.sl 1 [] .nl) (.sl 64 [] .nl) 0#64 0)=some (fR (.sl 1 [] .nl) (.sl 64 [] .nl) 0#64 0):=fun h d=>UL (ZIQ rfl rfl)
  generalize (Yk n s).map Za9=A at*
  generalize (List.replicate (n+1) (false,(0:Sl))).map Za9=R at*
  simp only[rwV]at hl⊢
  cases eg with
  |false=>
   simp only[Bool.false_eq_true,if_false]at hp
   subst hp
   simp -implicitDefEqProofs [f916,b916,h918,hn,w1,hz,hmk,c0,s0,hme,hfz,hfb,hb0,hl,hc0,hbS,hbR,hcR]
  |true=>
   simp only[if_true]at hp
   subst hp
   simp -implicitDefEqProofs [f916,b916,h918,hn,w1,hz,hmk,c0,s0,hme,hfz,hfb,hb0,hl,hc0,hbS,hbR,hcR]
 |none=>
  obtain⟨hSl,hPl⟩:=hS rfl
  simp only at hSl hPl hl
  rw[hn]at hSl
  have hin:Yb 65 (.sl 65 (P'.map Za9) .perm) (.int .i64 (n:Int))=some (.eptr (Za9 (P'.getD n (false,0))) 0 .perm):=by
   have:n<P'.length:=by rw[hPl];simp[Yk]
   rw[Zfc]
   unfold Zh
   rw[if_pos (by omega),show(n:Int).toNat=n from by omega,List.getElem?_map,List.getD_eq_getElem?_getD,List.getElem?_eq_getElem this];rfl
  have lb:(bS S').length=n:=by simp[bS,hSl]
  have ls:(rS S').length=n:=by simp[rS,hSl]
  have cb:=Zle S'
  have cs:Zv (rS S')=true:=by unfold rS;rw[YR];simp
  simp only[ZJA,ZJN]
  generalize P'.getD n (false,0)=pl at hin⊢
  obtain⟨pr,ps⟩:=pl
  generalize Zau m N.l=sp at*
  by_cases h0:n=0
  ·rw[if_pos h0,if_pos h0]at hl
   have hS0:S'=[]:=List.length_eq_zero_iff.1 (by omega)
   have htg:tg n=.nl:=if_pos h0
   rw[htg,hS0]
   have e1:bS []=[]:=rfl
   have e2:rS []=[]:=rfl
   rw[e1,e2]
   have hc0: ∀(h:Zg) d t k,frz 0 h d (fR (.sl 1 [] .nl) (.sl 64 [] .nl) t k)=some (fR (.sl 1 [] .nl) (.sl 64 [] .nl) t k):=fun h d t k=>UL (ZIQ rfl rfl)
   generalize P'.map Za9=A' at*
   generalize (Yk n s).map Za9=A at*
   generalize (List.replicate (n+1) (false,(0:Sl))).map Za9=R at*
   simp only[rwV]at hl⊢
   cases eg with
   |false=>
    simp only[Bool.false_eq_true,if_false]at hp
    subst hp
    simp -implicitDefEqProofs [f916,b916,h918,hn,w1,hz,hmk,c0,s0,hme,hfz,hfb,hb0,hl,hc0,hbS,hbP,hbR,hcR,hin,hst]
   |true=>
    simp only[if_true]at hp
    subst hp
    simp -implicitDefEqProofs [f916,b916,h918,hn,w1,hz,hmk,c0,s0,hme,hfz,hfb,hb0,hl,hc0,hbS,hbP,hbR,hcR,hin,hst]
  ·rw[if_neg h0,if_neg h0]at hl
   have htg:tg n=.perm:=if_neg h0
   rw[htg]
   have k1:YG (bS S') n=some (bS S'):=Yt lb
   have k2:YG (rS S') n=some (rS S'):=Yt ls
   have k3:ZaK n 0 n (bS S')=some (bS S'):=Qy lb
   have k4:ZaK n 0 n (rS S')=some (rS S'):=Qy ls
   generalize bS S'=B at*
   generalize rS S'=D at*
   have hc0: ∀b0 b1 b2 b3 b4 b5 T t k,frz 0 (b0::b1::b2::b3::b4::b5::.arr B::.arr D::T) 3 (fR (.gsl 6 n 1 0 n) (.gsl 7 n 64 0 n) t k)=some (fR (.sl 1 B .perm) (.sl 64 D .perm) t k):=fun b0 b1 b2 b3 b4 b5 T t k=>ZJO (by simp[k1,k3,cb]) (by simp[k2,k4,cs])
   generalize P'.map Za9=A' at*
   generalize (Yk n s).map Za9=A at*
   generalize (List.replicate (n+1) (false,(0:Sl))).map Za9=R at*
   simp only[rwV]at hl⊢
   cases eg with
   |false=>
    simp only[Bool.false_eq_true,if_false]at hp
    subst hp
    simp -implicitDefEqProofs [f916,b916,h918,hn,w1,hz,hmk,c0,s0,hme,hfz,hfb,hb0,hl,hc0,hbS,hbP,hbR,hcR,hin,hst]
   |true=>
    simp only[if_true]at hp
    subst hp
    simp -implicitDefEqProofs [f916,b916,h918,hn,w1,hz,hmk,c0,s0,hme,hfz,hfb,hb0,hl,hc0,hbS,hbP,hbR,hcR,hin,hst]
end Go.VE.Un
