/- Joined texts: PtB, PtC, PtD, PtE. No condition: what each theorem needs stands in it. -/
import Derived.Test.YthpccfpbghhpoaaGreatCc16
namespace Go.VE
theorem ZeB{lo:Nat}{h:Zg}{d B ep i o:Nat}(hB:lo≤B):frz lo h (d+1) (.ptr B ep i o)=(XR h B ep).bind fun es=>(es[i]?).bind fun e=>(frz lo h d e).map fun e=>.eptr e o .perm:=by
 conv=>lhs;unfold frz
 rw[if_neg (by simp[Qv])]
 simp only
 rw[if_neg (by omega)]
 unfold XR YG
 cases h[B]? with
 |none=>rfl
 |some b=>
  cases b<;>try rfl
  rename_i es;simp only;split<;>rfl
theorem Qw{vp:VP}{h h1:Zg}{r r':V}(hg:vp.gc=true)(ho:Qu h h1=true)(hf:frz h.length h1 4 r=some r'):WP vp false h r h1=(r',h1.take h.length):=by
 unfold WP
 rw[if_pos (by simp[hg,ho]),hf]
theorem UE{β:Type}{O:Orc}{vp:VP}{lo:Nat}{fr:Fr}{h:Zg}{k:Fr→Zg→Option β}{n a x i b:Nat}{xl:List Nat}{r:List VDt}{p:Nat}{rs:List Jf}:
 dK O vp lo (⟨⟨none,.store n true (.t a) (.t x),none⟩,i,b,xl⟩::r) p rs fr h k=((fzV lo h (lk fr x)).bind fun q=>Xp lo q.2 n (lk fr a) q.1).bind fun h'=>if(rs.all fun e=> !xl.contains e.p||ZT (Yv h' e.agg e.n e.a) e.v)=true then dK O vp lo r (p+1) rs fr h' k else none:=by
 unfold dK
 simp only[Ur,ZY,ZM,ZnK,if_true]
 cases fzV lo h (lk fr x)with
 |none=>rfl
 |some q=>
  simp only[Option.bind_some]
  cases Xp lo q.2 n (lk fr a) q.1 with
  |none=>rfl
  |some h'=>
   simp only[Option.map_some,Option.bind_some,ZaR,Xg,List.nil_append]
   split<;>rfl
end Go.VE
namespace Go.VE.Un
open Go.VE
def Ky(m:Zb)(x:Zs)(i:Nat)(M:List Int):List Int:=M.set i ((if x.Kind.n=2 then M.getD x.Yes.n.toNat 0 else max (M.getD x.Yes.n.toNat 0) (M.getD x.No.n.toNat 0))+Qk m x)
def VO(m:Zb)(nd:List Zs):Nat→List Int→List Int
 |0,M=>M
 |j+1,M=>VO m nd j (match nd[j]? with|some x=>Ky m x j M|none=>M)
theorem ZbC(m:Zb)(x:Zs)(i:Nat)(M:List Int):(Ky m x i M).length=M.length:=by simp[Ky]
theorem iaG{B ep z:Nat}{i:Int}(h0:0≤i)(h1:i<(ep:Int)):Yb z (.gsl B ep z 0 ep) (.int .i64 i)=some (.ptr B ep i.toNat 0):=by simp[Yb,h0,h1]
set_option maxHeartbeats 1000000 in
theorem Zob(m:Zb)(hc:Yr m=none)(nd:GL Zs)(hcl:Ze (GL.v 6 Zs.v nd)=true)(n:Nat)(hn:nd.l.length=n)(hn2:n≤32)(hg: ∀i x,Zh nd.l i=some x→JD m n i x): ∀(j:Nat) (i:Int) (M:List Int),i+1=j→j≤n→M.length=n+1→(∀k:Nat,0≤M.getD k 0∧M.getD k 0≤66*(n-j))→∃fr,(orc vp).loop 0 [1,2,5,6] ZhC [(1,GL.v 6 Zs.v nd),(2,.ptr 0 1 0 0),(5,.gsl 1 (n+1) 1 0 (n+1)),(6,.int .i64 i)] [.arr [m.v],.arr (M.map (V.int .i64))]=
 some (.brk 0,(1,GL.v 6 Zs.v nd)::(2,.ptr 0 1 0 0)::(5,.gsl 1 (n+1) 1 0 (n+1))::fr,[.arr [m.v],.arr ((VO m nd.l j M).map (V.int .i64))]):=by
 intro j
 induction j with
 |zero=>
  intro i M hi hj hM hb
  have:i= -1:=by omega
  subst this
  refine⟨[(6,.int .i64 (-1)),(16,.bool false)],?_⟩
  rw[Zjx]
  simp -implicitDefEqProofs [Q7,VO]
 |succ j ih=>
  intro i M hi hj hM hb
  have hij:i=j:=by omega
  subst hij
  have hlt:(j:Int)<nd.l.length:=by omega
  obtain⟨x,hx⟩: ∃x,nd.l[j]? =some x:=⟨_,List.getElem?_eq_getElem (by omega)⟩
  have hx':Zh nd.l (j:Int)=some x:=by simp[Zh,hx]
  obtain⟨k0,k3,hnm,hy,hno,hcd⟩:=hg _ _ hx'
  have hcost:=Zod m hc x hnm
  have hcb:=Zox hc (hg _ _ hx')
  have hxc:=Xc hcl hx'
  obtain⟨i2,hi2⟩: ∃i2:Int,(j:Int)-1=i2:=⟨_,rfl⟩
  have w1:IntKind.i64.wrap ((j:Int)-1)=i2:=by rw[ZK (by omega) (by omega),hi2]
  have hia:=iaG (B:=1) (z:=1) (ep:=n+1) (i:=(j:Int)) (by omega) (by omega)
  have hiy:=iaG (B:=1) (z:=1) (ep:=n+1) (i:=x.Yes.n) (by omega) (by omega)
  rw[Int.toNat_natCast]at hia
  have hjl:j<M.length:=by omega
  have gy:(M.map (V.int .i64))[x.Yes.n.toNat]? =some (.int .i64 (M.getD x.Yes.n.toNat 0)):=by
   have:x.Yes.n.toNat<M.length:=by omega
   rw[List.getElem?_map,List.getD_eq_getElem?_getD,List.getElem?_eq_getElem this];rfl
  have cA:YG (M.map (V.int .i64)) (n+1)=some (M.map (V.int .i64)):=Yt (by simp[hM])
  have cS: ∀v,YG ((M.map (V.int .i64)).set j v) (n+1)=some ((M.map (V.int .i64)).set j v):=fun v=>Yt (by simp[hM])
  have gS: ∀v,((M.map (V.int .i64)).set j v)[j]? =some v:=fun v=>by simp[hjl]
  have gA:(M.map (V.int .i64))[j]? =some (.int .i64 (M.getD j 0)):=by
   rw[List.getElem?_map,List.getD_eq_getElem?_getD,List.getElem?_eq_getElem hjl];rfl
  have sS: ∀v w,((M.map (V.int .i64)).set j v).set j w=(M.map (V.int .i64)).set j w:=fun v w=>by simp
  have bA:Zo 2 (M.map (V.int .i64))=true:=Yq (fun _=>rfl) _
  have bS: ∀v,Zo 2 ((M.map (V.int .i64)).set j (.int .i64 v))=true:=fun v=>by rw[←List.map_set];exact Yq (fun _=>rfl) _
  have hby:=hb x.Yes.n.toNat
  have hst:VO m nd.l (j+1) M=VO m nd.l j (Ky m x j M):=by simp only[VO,hx]
  have ih:=ih i2 (Ky m x j M) (by omega) (by omega) (by rw[ZbC,hM]) (fun k=>by
   unfold Ky
   rw[List.getD_eq_getElem?_getD,List.getElem?_set]
   have hbn:=hb x.No.n.toNat
   have hbk:=hb k
   by_cases c:j=k
   ·subst c
    rw[if_pos rfl,if_pos hjl]
    simp only[Option.getD_some]
    split<;>omega
   ·rw[if_neg c,←List.getD_eq_getElem?_getD];omega)
  have hmap:(Ky m x j M).map (V.int .i64)=(M.map (V.int .i64)).set j (.int .i64 ((if x.Kind.n=2 then M.getD x.Yes.n.toNat 0 else max (M.getD x.Yes.n.toNat 0) (M.getD x.No.n.toNat 0))+Qk m x)):=by unfold Ky;rw[List.map_set]
  obtain⟨fr,ih⟩:=ih
  rw[hmap]at ih
  rw[hst]
  refine⟨fr,?_⟩
  rw[Zjx]
  by_cases c:x.Kind.n=2
  ·rw[if_pos c]at ih
   have w2:IntKind.i64.wrap (M.getD x.Yes.n.toNat 0+Qk m x)=M.getD x.Yes.n.toNat 0+Qk m x:=ZK (by omega) (by omega)
   generalize M.getD x.Yes.n.toNat 0=a at*
   generalize (M.map (V.int .i64))=A at*
   simp -implicitDefEqProofs [Q7,hx',hia,hiy,gy,cA,cS,gS,gA,sS,bA,bS,hcost,hxc,c,w1,w2,ih]
  ·rw[if_neg c]at ih
   obtain⟨n0,n1⟩:=hno c
   have hin:=iaG (B:=1) (z:=1) (ep:=n+1) (i:=x.No.n) (by omega) (by omega)
   have gN: ∀v,((M.map (V.int .i64)).set j v)[x.No.n.toNat]? =some (.int .i64 (M.getD x.No.n.toNat 0)):=fun v=>by
    have h1:x.No.n.toNat<M.length:=by omega
    rw[List.getElem?_set,if_neg (by omega),List.getElem?_map,List.getD_eq_getElem?_getD,List.getElem?_eq_getElem h1];rfl
   have hbn:=hb x.No.n.toNat
   have hmx:Vq (fun a b=>if b>a then b else a) [.int .i64 (M.getD x.Yes.n.toNat 0),.int .i64 (M.getD x.No.n.toNat 0)]=some (.int .i64 (max (M.getD x.Yes.n.toNat 0) (M.getD x.No.n.toNat 0))):=by rw[JG];congr 2;omega
   have w2:IntKind.i64.wrap (max (M.getD x.Yes.n.toNat 0) (M.getD x.No.n.toNat 0)+Qk m x)=max (M.getD x.Yes.n.toNat 0) (M.getD x.No.n.toNat 0)+Qk m x:=ZK (by omega) (by omega)
   generalize max (M.getD x.Yes.n.toNat 0) (M.getD x.No.n.toNat 0)=mx at*
   generalize M.getD x.Yes.n.toNat 0=a at*
   generalize M.getD x.No.n.toNat 0=a2 at*
   generalize (M.map (V.int .i64))=A at*
   simp -implicitDefEqProofs [Q7,hx',hia,hiy,hin,gy,cA,cS,gS,gA,gN,sS,bA,bS,hcost,hxc,c,w1,w2,hmx,ih]
theorem ZaM(m:Zb)(nd:List Zs): ∀(j:Nat) (M:List Int),(VO m nd j M).length=M.length
 |0,_=>rfl
 |j+1,M=>by
  simp only[VO]
  rw[ZaM m nd j]
  split
  ·exact ZbC ..
  ·rfl
def Zau(m:Zb)(nd:List Zs):Int:=(VO m nd nd.length (List.replicate (nd.length+1) 0)).getD 0 0
theorem Zmy(m:Zb)(hc:Yr m=none)(nd:GL Zs)(hcl:Ze (GL.v 6 Zs.v nd)=true)(hn2:nd.l.length≤32)(hg: ∀i x,Zh nd.l i=some x→JD m nd.l.length i x):Zc vp 626 [m.v,GL.v 6 Zs.v nd]=some (.int .i64 (Zau m nd.l)):=by
 obtain⟨n,hn⟩: ∃n,nd.l.length=n:=⟨_,rfl⟩
 have hsI:Zau m nd.l=(VO m nd.l n (List.replicate (n+1) 0)).getD 0 0:=by unfold Zau;rw[hn]
 have hg': ∀i x,Zh nd.l i=some x→JD m n i x:=fun i x h=>hn▸hg i x h
 obtain⟨fr,hl⟩:=Zob m hc nd hcl n hn (by omega) hg' n ((n:Int)-1) (List.replicate (n+1) 0) (by omega) (by omega) (by simp) (fun k=>by
  rw[List.getD_eq_getElem?_getD,List.getElem?_replicate];split<;>simp)
 have hlen:=ZaM m nd.l n (List.replicate (n+1) 0)
 rw[List.length_replicate]at hlen
 rw[hsI,Za Zyj]
 have w1:IntKind.i64.wrap ((n:Int)+1)=(n:Int)+1:=ZK (by omega) (by omega)
 have w2:IntKind.i64.wrap ((n:Int)-1)=(n:Int)-1:=ZK (by omega) (by omega)
 have hmk: ∀a,UW [a] (.int .i64 0) 8 (.int .i64 ((n:Int)+1)) (.int .i64 ((n:Int)+1))=some (.gsl 1 (n+1) 1 0 (n+1),[a,.arr ((List.replicate (n+1) (0:Int)).map (V.int .i64))]):=fun a=>by
  unfold UW
  simp only
  have e3:((n:Int)+1).toNat=n+1:=by omega
  rw[if_pos (by unfold YC;omega),e3,List.map_replicate];rfl
 have hi0:=iaG (B:=1) (z:=1) (ep:=n+1) (i:=0) (by omega) (by omega)
 generalize VO m nd.l n (List.replicate (n+1) 0)=M at*
 have c1:YG (M.map (V.int .i64)) (n+1)=some (M.map (V.int .i64)):=Yt (by simp[hlen])
 have g1:(M.map (V.int .i64))[0]? =some (.int .i64 (M.getD 0 0)):=by
  have:0<M.length:=by omega
  rw[List.getElem?_map,List.getD_eq_getElem?_getD,List.getElem?_eq_getElem this];rfl
 generalize M.getD 0 0=r at*
 generalize (List.replicate (n+1) (0:Int)).map (V.int .i64)=R at*
 generalize M.map (V.int .i64)=A at*
 simp -implicitDefEqProofs [f626,b626,hn,w1,w2,hmk,hl,hi0,c1,g1]
theorem ZfI{b0 b1 b2:Blk}{T:Zg}{m:Zb}{p:Int}{nd:V}{n:Nat}{P:List (Bool ×Sl)}(hP:P.length=n+1)(hnd:Zk 0 nd=true):
 Yd (b0::b1::b2::.arr (P.map plV)::T) 3 (wkV m p nd (.gsl 3 (n+1) 2 0 (n+1)))=some (wkV m p nd (.sl 2 (P.map plV) .brw)):=by
 have c0:YG (P.map plV) (n+1)=some (P.map plV):=Yt (by simp[hP])
 have hs:ZaK (n+1) 0 (n+1) (P.map plV)=some (P.map plV):=Qy (by simp[hP])
 have hg:Yd (b0::b1::b2::.arr (P.map plV)::T) 2 (.gsl 3 (n+1) 2 0 (n+1))=some (.sl 2 (P.map plV) .brw):=by
  rw[ZbY,ZqT]
  simp only[ZgA,Zhp,c0,Option.bind_some,hs]
  rw[Jj (Yq (fun _=>Uy 0 _) P)];rfl
 have hn:Yd (b0::b1::b2::.arr (P.map plV)::T) 2 nd=some nd:=V1 hnd
 unfold wkV
 rw[Zla]
 unfold Zb.cs
 simp[hg,hn]
section
variable (m : Zb) (p : Int) (nd : V) (n : Nat)
theorem ZqM(b0 b1:Blk)(T:Zg)(P:List (Bool ×Sl))(hP:P.length=n+1)(a:Int)(h0:0≤a)(h1:a≤n)(s:Sl):(orc vp).call 172 0 [.ptr 2 1 0 0,.int .i64 a,sV s] (b0::b1::.arr [wkV m p nd (.gsl 3 (n+1) 2 0 (n+1))]::.arr (P.map plV)::T)=
 some (.tup [],b0::b1::.arr [wkV m p nd (.gsl 3 (n+1) 2 0 (n+1))]::.arr ((atP P a.toNat s).map plV)::T):=by
 have hia:=iaG (B:=3) (z:=2) (ep:=n+1) (i:=a) h0 (by omega)
 have hi:a.toNat<P.length:=by omega
 generalize hk:a.toNat=i at*
 have hp:P[i]? =some (P.getD i (false,0)):=by rw[List.getD_eq_getElem?_getD,List.getElem?_eq_getElem hi];rfl
 have c0:YG (P.map plV) (n+1)=some (P.map plV):=Yt (by simp[hP])
 have g0:(P.map plV)[i]? =some (plV (P.getD i (false,0))):=by rw[List.getElem?_map,hp];rfl
 have s1: ∀v,(P.map plV).set i (plV v)=(P.set i v).map plV:=fun v=>by rw[List.map_set]
 have c1: ∀v,YG ((P.map plV).set i v) (n+1)=some ((P.map plV).set i v):=fun v=>Yt (by simp[hP])
 have g1: ∀v,((P.map plV).set i v)[i]? =some v:=fun v=>by simp[hi]
 have s2: ∀v w,((P.map plV).set i v).set i w=(P.map plV).set i w:=fun v w=>by simp
 have rN: ∀fr h,Ub fr h []=some (.tup []):=fun _ _=>rfl
 unfold atP
 rw[←s1]
 generalize P.getD i (false,0)=q at g0⊢
 obtain⟨r,q⟩:=q
 rw[K9 ZrE]
 generalize P.map plV=A at*
 cases r
 ·simp -implicitDefEqProofs [f172,b172,Zf,hia,c0,g0,plV,W9,c1,g1,s2,Js,rN]
 ·simp -implicitDefEqProofs [f172,b172,Zf,hia,c0,g0,plV,W9,c1,g1,s2,Js,rN]
theorem Zao{β:Type}(b0 b1:Blk)(T:Zg)(P:List (Bool ×Sl))(hP:P.length=n+1)(a:Int)(h0:0≤a)(h1:a≤n)(s:Sl)(kv:V→Zg→Option β):rwK vp 0 (b0::b1::.arr [wkV m p nd (.gsl 3 (n+1) 2 0 (n+1))]::.arr (P.map plV)::T) 172 [.ptr 2 1 0 0,.int .i64 a,sV s] kv=
 kv (.tup []) (b0::b1::.arr [wkV m p nd (.gsl 3 (n+1) 2 0 (n+1))]::.arr ((atP P a.toNat s).map plV)::T):=by
 unfold rwK
 rw[ZqM m p nd n b0 b1 T P hP a h0 h1 s]
 simp only[Option.bind_some]
 rw[Zb0 (by simp)]
end
end Go.VE.Un
namespace Go.VE.Un
open Go.VE
abbrev Wr:=Int ×Int ×Int ×Int
def wrO:Option Wr→V
 |none=>.nilp
 |some (p,n,a,e)=>.eptr (wrV p n a e) 0 .perm
def WZ(m:Zb)(a:Int):List Ins:=match Zh m.Actions.l a with|some x=>x.Code.l|none=>[]
def WK(m:Zb)(d y no:Int)(s:Sl):List I64→List (Bool ×Sl)→Option Wr ×List (Bool ×Sl)
 |[],P=>(none,P)
 |a::r,P=>
  let q:=Y1 m (WZ m a.n) s
  if q.2.2=0 then WK m d y no s r (if a.n=d then atP (atP P y.toNat q.1) no.toNat q.1 else atP P y.toNat q.1)else(some (5,a.n,q.2.1,q.2.2),P)
theorem K6(m:Zb)(d y no:Int)(s:Sl): ∀(l:List I64) (P:List (Bool ×Sl)),(WK m d y no s l P).2.length=P.length
 |[],_=>rfl
 |a::r,P=>by
  simp only[WK]
  split
  ·rw[K6 m d y no s r];split<;>simp
  ·rfl
def UC(m:Zb)(p i:Int)(x:Zs)(P:List (Bool ×Sl))(s:Sl):Option Wr ×List (Bool ×Sl):=
 match Zh m.Tables.l x.A.n with
 |none=>(none,P)
 |some t=>if 0≤JO t.Keys.l s then(some (p,i,JO t.Keys.l s,11),P)else WK m t.Default.Action.n x.Yes.n x.No.n s t.Actions.l P
section
variable (m : Zb) (hm : Clo m) (hsm : Z2 m) (p : Int) (nd : V) (hnd : Zk 0 nd = true) (n : Nat) (e0 e1 e4 e5 e6 e7 : List V)
include hm hsm hnd in
theorem Zqr(x:Zs)(t:ZD)(y0:0≤x.Yes.n)(y1:x.Yes.n≤n)(n0:0≤x.No.n)(n1:x.No.n≤n)(s:Sl)(hl: ∀a∈t.Actions.l,∃act,Zh m.Actions.l a.n=some act): ∀(r:List I64) (i:Int) (P:List (Bool ×Sl)),0≤i→i≤t.Actions.l.length→t.Actions.l.drop i.toNat=r→P.length=n+1→∃fr,(orc vp).loop 0 [0,3,6,9,39,40,41] ZgF [(0,.ptr 2 1 0 0),(3,sV s),(6,.ptr 8 1 0 0),(9,.ptr 9 1 0 0),(39,GL.v 1 I64.v t.Actions),(40,.int .i64 t.Actions.l.length),(41,.int .i64 i)]
 [.arr e0,.arr e1,.arr [wkV m p nd (.gsl 3 (n+1) 2 0 (n+1))],.arr (P.map plV),.arr e4,.arr e5,.arr e6,.arr e7,.arr [x.v],.arr [t.v]]=some (match WK m t.Default.Action.n x.Yes.n x.No.n s r P with
 |(none,P')=>(.brk 0,fr,[.arr e0,.arr e1,.arr [wkV m p nd (.gsl 3 (n+1) 2 0 (n+1))],.arr (P'.map plV),.arr e4,.arr e5,.arr e6,.arr e7,.arr [x.v],.arr [t.v]])
 |(some w,P')=>(.ret,[(8,wrO (some w))],[.arr e0,.arr e1,.arr [wkV m p nd (.gsl 3 (n+1) 2 0 (n+1))],.arr (P'.map plV),.arr e4,.arr e5,.arr e6,.arr e7,.arr [x.v],.arr [t.v]])):=by
 have hle:=t.Actions.le
 intro r
 induction r with
 |nil=>
  intro i P hi hi2 hd hP
  have:=Zq hi hd
  have e:i=t.Actions.l.length:=by omega
  subst e
  refine⟨[(0,.ptr 2 1 0 0),(3,sV s),(6,.ptr 8 1 0 0),(9,.ptr 9 1 0 0),(39,GL.v 1 I64.v t.Actions),(40,.int .i64 t.Actions.l.length),(41,.int .i64 t.Actions.l.length),(42,.bool false)],?_⟩
  rw[KP]
  simp -implicitDefEqProofs [Qc,WK]
 |cons a r ih=>
  intro i P hi hi2 hd hP
  obtain⟨h1,h2,h3⟩:=Zp hi hd
  have w1:IntKind.i64.wrap (i+1)=i+1:=ZK (by omega) (by omega)
  have ha:a∈t.Actions.l:=by
   have:a∈t.Actions.l.drop i.toNat:=by rw[hd];simp
   exact List.mem_of_mem_drop this
  obtain⟨act,hact⟩:=hl a ha
  have hco:WZ m a.n=act.Code.l:=by unfold WZ;rw[hact]
  have haf:=Zek m hm hsm p nd (.sl 2 (P.map plV) .brw) a.n act hact s
  have hv:=fun {b0 b1 b2 T}=>ZfI (b0:=b0) (b1:=b1) (b2:=b2) (T:=T) (m:=m) (p:=p) (nd:=nd) hP hnd
  have hwb:Zk 0 (wkV m p nd (.sl 2 (P.map plV) .brw))=true:=by
   have:=Yq (k:=0) (fun q=>Uy 0 q) P
   unfold wkV Zb.cs;simp[hnd,this]
  have em:=fun b0 b1 T Q hQ=>Zao (β:=Ex ×Fr ×Zg) m p nd n b0 b1 T Q hQ
  rw[←hco]at haf
  simp only[WK]
  generalize Y1 m (WZ m a.n) s=q at haf⊢
  obtain⟨o,j,e⟩:=q
  simp only at haf⊢
  by_cases he:e=0
  ·rw[if_pos he]at haf⊢
   have m1:=fun kv=>em (.arr e0) (.arr e1) [.arr e4,.arr e5,.arr e6,.arr e7,.arr [x.v],.arr [t.v]] P hP x.Yes.n y0 y1 o kv
   by_cases hd2:a.n=t.Default.Action.n
   ·rw[if_pos hd2]
    have hdd:=eq_true hd2
    have m2:=fun kv=>em (.arr e0) (.arr e1) [.arr e4,.arr e5,.arr e6,.arr e7,.arr [x.v],.arr [t.v]] (atP P x.Yes.n.toNat o) (by simp[hP]) x.No.n n0 n1 o kv
    obtain⟨fr,ih⟩:=ih (i+1) (atP (atP P x.Yes.n.toNat o) x.No.n.toNat o) (by omega) (by omega) h3 (by simp[hP])
    refine⟨fr,?_⟩
    rw[KP,←ih]
    simp -implicitDefEqProofs [Qc,h1,h2,hv,hwb,haf,m1,m2,hdd,w1]
   ·rw[if_neg hd2]
    obtain⟨fr,ih⟩:=ih (i+1) (atP P x.Yes.n.toNat o) (by omega) (by omega) h3 (by simp[hP])
    refine⟨fr,?_⟩
    rw[KP,←ih]
    simp -implicitDefEqProofs [Qc,h1,h2,hv,hwb,haf,m1,hd2,w1]
  ·rw[if_neg he]at haf⊢
   refine⟨[],?_⟩
   rw[KP]
   simp -implicitDefEqProofs [Qc,h1,h2,hv,hwb,haf,wrO]
end
end Go.VE.Un
namespace Go.VE.Un
open Go.VE
section
variable (m : Zb) (hm : Clo m) (hsm : Z2 m) (hc : Yr m = none) (p : Int) (nd : V) (hnd : Zk 0 nd = true) (n : Nat) (e0 e1 e4 e5 e6 e7 : List V)
include hm hsm hc hnd in
set_option maxHeartbeats 1000000 in
theorem ZmD{β:Type}(i:Int)(x:Zs)(hg:JD m n i x)(hi:0≤i)(k0:x.Kind.n=0)(P:List (Bool ×Sl))(hP:P.length=n+1)(s:Sl)(kv:V→Zg→Option β):rwK vp 0 [.arr e0,.arr e1,.arr [wkV m p nd (.gsl 3 (n+1) 2 0 (n+1))],.arr (P.map plV),.arr e4,.arr e5,.arr e6,.arr e7] 171 [.ptr 2 1 0 0,.int .i64 i,x.v,sV s] kv=
 kv (wrO (UC m p i x P s).1) [.arr e0,.arr e1,.arr [wkV m p nd (.gsl 3 (n+1) 2 0 (n+1))],.arr ((UC m p i x P s).2.map plV),.arr e4,.arr e5,.arr e6,.arr e7]:=by
 obtain⟨t,ht⟩:=Zzn hg.nm k0
 have htc:=Xc (ZbZ hm) ht
 obtain⟨ta,tb⟩:=Za3 hc ht
 have hky:=ZrW t.Keys s
 have hn:=hg.no (by omega)
 have hy:=hg.yes
 have hap:UC m p i x P s=if 0≤JO t.Keys.l s then(some (p,i,JO t.Keys.l s,11),P)else WK m t.Default.Action.n x.Yes.n x.No.n s t.Actions.l P:=by unfold UC;rw[ht]
 obtain⟨fr,hl⟩:=Zqr m hm hsm p nd hnd n e0 e1 e4 e5 e6 e7 x t (by omega) hy.2 (by omega) hn.2 s tb t.Actions.l 0 P (by omega) (by omega) rfl hP
 have bP:=fun(P:List (Bool ×Sl))=>Yq (k:=8) (fun q=>Uy 8 q) P
 rw[hap]
 unfold rwK
 rw[K9 Zrc]
 by_cases hk:0≤JO t.Keys.l s
 ·rw[if_pos hk]
  have hgc:WP vp false [.arr e0,.arr e1,.arr [wkV m p nd (.gsl 3 (n+1) 2 0 (n+1))],.arr (P.map plV),.arr e4,.arr e5,.arr e6,.arr e7] (.ptr 10 1 0 0)
   [.arr e0,.arr e1,.arr [wkV m p nd (.gsl 3 (n+1) 2 0 (n+1))],.arr (P.map plV),.arr e4,.arr e5,.arr e6,.arr e7,.arr [x.v],.arr [t.v],.arr [wrV p i (JO t.Keys.l s) 11]]=(wrO (some (p,i,JO t.Keys.l s,11)),[.arr e0,.arr e1,.arr [wkV m p nd (.gsl 3 (n+1) 2 0 (n+1))],.arr (P.map plV),.arr e4,.arr e5,.arr e6,.arr e7]):=by
   rw[Qw (r':=wrO (some (p,i,JO t.Keys.l s,11))) Zes (by simp) (by
    rw[ZeB (by simp)]
    simp[wrO])]
   rfl
  unfold wrV at hgc
  simp -implicitDefEqProofs [f171,b171,Zf,ZC,ht,htc,hky,hk,hgc]
 ·rw[if_neg hk]
  generalize WK m t.Default.Action.n x.Yes.n x.No.n s t.Actions.l P=q at hl⊢
  obtain⟨o,P2⟩:=q
  cases o with
  |none=>
   have hgc:WP vp false [.arr e0,.arr e1,.arr [wkV m p nd (.gsl 3 (n+1) 2 0 (n+1))],.arr (P.map plV),.arr e4,.arr e5,.arr e6,.arr e7] .nilp
    [.arr e0,.arr e1,.arr [wkV m p nd (.gsl 3 (n+1) 2 0 (n+1))],.arr (P2.map plV),.arr e4,.arr e5,.arr e6,.arr e7,.arr [x.v],.arr [t.v]]=(wrO none,[.arr e0,.arr e1,.arr [wkV m p nd (.gsl 3 (n+1) 2 0 (n+1))],.arr (P2.map plV),.arr e4,.arr e5,.arr e6,.arr e7]):=by
    rw[Qw (r':=wrO none) Zes (by simp[bP]) (by simp[wrO])]
    rfl
   simp -implicitDefEqProofs [f171,b171,Zf,ht,htc,hky,hk,hl,hgc]
  |some w=>
   obtain⟨w1,w2,w3,w4⟩:=w
   have hgc:WP vp false [.arr e0,.arr e1,.arr [wkV m p nd (.gsl 3 (n+1) 2 0 (n+1))],.arr (P.map plV),.arr e4,.arr e5,.arr e6,.arr e7] (wrO (some (w1,w2,w3,w4)))
    [.arr e0,.arr e1,.arr [wkV m p nd (.gsl 3 (n+1) 2 0 (n+1))],.arr (P2.map plV),.arr e4,.arr e5,.arr e6,.arr e7,.arr [x.v],.arr [t.v]]=(wrO (some (w1,w2,w3,w4)),[.arr e0,.arr e1,.arr [wkV m p nd (.gsl 3 (n+1) 2 0 (n+1))],.arr (P2.map plV),.arr e4,.arr e5,.arr e6,.arr e7]):=by
    rw[Qw (r':=wrO (some (w1,w2,w3,w4))) Zes (by simp[bP]) (by simp[wrO,Ze])]
    rfl
   simp -implicitDefEqProofs [f171,b171,Zf,ht,htc,hky,hk,hl,hgc]
end
end Go.VE.Un
namespace Go.VE.Un
open Go.VE
def Vr(m:Zb)(p i:Int)(x:Zs)(P:List (Bool ×Sl))(s:Sl):Option Wr ×List (Bool ×Sl):=
 if x.Kind.n=0 then UC m p i x P s
 else if x.Kind.n=2 then(if(Y1 m (WZ m x.A.n) s).2.2=0 then(none,atP P x.Yes.n.toNat (Y1 m (WZ m x.A.n) s).1)else(some (5,x.A.n,(Y1 m (WZ m x.A.n) s).2.1,(Y1 m (WZ m x.A.n) s).2.2),P))
 else if x.Kind.n=1 then(if(Y1 m x.Code.l s).2.2=0 then(none,atP (atP P x.Yes.n.toNat (Y1 m x.Code.l s).1) x.No.n.toNat (Y1 m x.Code.l s).1)else(some (p,i,(Y1 m x.Code.l s).2.1,(Y1 m x.Code.l s).2.2),P))
 else(none,atP (atP P x.Yes.n.toNat (VY s x.A.n)) x.No.n.toNat (Va s x.A.n))
theorem Zf3(m:Zb)(p i:Int)(x:Zs)(P:List (Bool ×Sl))(s:Sl):(UC m p i x P s).2.length=P.length:=by
 unfold UC
 split
 ·rfl
 ·split
  ·rfl
  ·exact K6 ..
theorem J3(m:Zb)(p i:Int)(x:Zs)(P:List (Bool ×Sl))(s:Sl):(Vr m p i x P s).2.length=P.length:=by
 unfold Vr
 split
 ·exact Zf3 ..
 ·split
  ·split<;>simp
  ·split
   ·split<;>simp
   ·simp
section
variable (m : Zb) (hm : Clo m) (hsm : Z2 m) (hc : Yr m = none) (p : Int) (N : GL Zs) (n : Nat) (e0 e1 e4 e5 e6 : List V)
include hm hsm hc in
set_option maxHeartbeats 4000000 in
theorem Zjh{β:Type}(i:Nat)(x:Zs)(hx:Zh N.l (i:Int)=some x)(hxc:Ze x.v=true)(hg:JD m n i x)(P:List (Bool ×Sl))(hP:P.length=n+1)(r:Bool)(s:Sl)(hs:P.getD i (false,0)=(r,s))(hin:i<n)(kv:V→Zg→Option β):rwK vp 0 [.arr e0,.arr e1,.arr [wkV m p (GL.v 6 Zs.v N) (.gsl 3 (n+1) 2 0 (n+1))],.arr (P.map plV),.arr e4,.arr e5,.arr e6] 173 [.ptr 2 1 0 0,.int .i64 i] kv=
 kv (wrO (Vr m p i x P s).1) [.arr e0,.arr e1,.arr [wkV m p (GL.v 6 Zs.v N) (.gsl 3 (n+1) 2 0 (n+1))],.arr ((Vr m p i x P s).2.map plV),.arr e4,.arr e5,.arr e6]:=by
 have hnd:Zk 0 (GL.v 6 Zs.v N)=true:=by simp
 have c0:YG (P.map plV) (n+1)=some (P.map plV):=Yt (by simp[hP])
 have g0:(P.map plV)[i]? =some (plV (r,s)):=by
  have:i<P.length:=by omega
  rw[List.getElem?_map,←hs,List.getD_eq_getElem?_getD,List.getElem?_eq_getElem this];rfl
 have hia:=iaG (B:=3) (z:=2) (ep:=n+1) (i:=(i:Int)) (by omega) (by omega)
 rw[Int.toNat_natCast]at hia
 have bP:=fun(P:List (Bool ×Sl))=>Yq (k:=7) (fun q=>Uy 7 q) P
 have hgc: ∀(o:Option Wr) (P2:List (Bool ×Sl)),WP vp false [.arr e0,.arr e1,.arr [wkV m p (GL.v 6 Zs.v N) (.gsl 3 (n+1) 2 0 (n+1))],.arr (P.map plV),.arr e4,.arr e5,.arr e6] (wrO o)
  [.arr e0,.arr e1,.arr [wkV m p (GL.v 6 Zs.v N) (.gsl 3 (n+1) 2 0 (n+1))],.arr (P2.map plV),.arr e4,.arr e5,.arr e6,.arr [x.v]]=(wrO o,[.arr e0,.arr e1,.arr [wkV m p (GL.v 6 Zs.v N) (.gsl 3 (n+1) 2 0 (n+1))],.arr (P2.map plV),.arr e4,.arr e5,.arr e6]):=fun o P2=>by
  rw[Qw (r':=wrO o) Zes (by simp[bP]) (by
   cases o with
   |none=>simp[wrO]
   |some w=>obtain⟨a,b,c,d⟩:=w;simp[wrO,Ze])]
  rfl
 have hv:=fun {b0 b1 b2 T}=>ZfI (b0:=b0) (b1:=b1) (b2:=b2) (T:=T) (m:=m) (p:=p) (nd:=GL.v 6 Zs.v N) hP hnd
 have hwb:Zk 0 (wkV m p (GL.v 6 Zs.v N) (.sl 2 (P.map plV) .brw))=true:=by
  have:=Yq (k:=0) (fun q=>Uy 0 q) P
  unfold wkV Zb.cs;simp[this]
 have em:=fun b0 b1 T Q hQ=>Zao (β:=V ×Zg) m p (GL.v 6 Zs.v N) n b0 b1 T Q hQ
 have hy:=hg.yes
 have hzn:wrO none=.nilp:=rfl
 have hgn:=hgc none
 rw[hzn]at hgn
 unfold rwK
 rw[K9 Zry]
 unfold Vr
 by_cases k0:x.Kind.n=0
 ·rw[if_pos k0]
  have hap:=fun kv=>ZmD (β:=V ×Zg) m hm hsm hc p (GL.v 6 Zs.v N) hnd n e0 e1 e4 e5 e6 [x.v] (i:Int) x hg (by omega) k0 P hP s kv
  generalize UC m p (i:Int) x P s=q at hap⊢
  obtain⟨o,P2⟩:=q
  have hgo:=hgc o P2
  simp only at hap
  simp -implicitDefEqProofs [f173,b173,Zf,hx,hxc,hia,c0,g0,plV,k0,hap,hgo,Xd,UE,Tx.E,Tx.D,Tx.mv,Tx.nk,Tx.fa,Tx.ld,Tx.ia,Tx.la,Tx.al,Tx.ct,Tx.ex,Xg,ZT]
 rw[if_neg k0]
 by_cases k2:x.Kind.n=2
 ·rw[if_pos k2]
  obtain⟨act,hact⟩:=ZyL hg.nm k2
  have hco:WZ m x.A.n=act.Code.l:=by unfold WZ;rw[hact]
  have haf:=Zek m hm hsm p (GL.v 6 Zs.v N) (.sl 2 (P.map plV) .brw) x.A.n act hact s
  rw[←hco]at haf
  generalize Y1 m (WZ m x.A.n) s=q at haf⊢
  obtain⟨o,j,e⟩:=q
  simp only at haf⊢
  by_cases he:e=0
  ·rw[if_pos he]at haf⊢
   have m1:=fun kv=>em (.arr e0) (.arr e1) [.arr e4,.arr e5,.arr e6,.arr [x.v]] P hP x.Yes.n (by omega) hy.2 o kv
   have hgo:=hgn (atP P x.Yes.n.toNat o)
   simp -implicitDefEqProofs [f173,b173,Zf,hx,hxc,hia,c0,g0,plV,k2,hv,hwb,haf,m1,hgo,hzn,Xd,UE,Tx.E,Tx.D,Tx.mv,Tx.nk,Tx.fa,Tx.ld,Tx.ia,Tx.la,Tx.al,Tx.ct,Tx.ex,Xg,ZT]
  ·rw[if_neg he]at haf⊢
   have hgo:=hgc (some (5,x.A.n,j,e)) P
   have hwo:wrO (some (5,x.A.n,j,e))=.eptr (wrV 5 x.A.n j e) 0 .perm:=rfl
   rw[hwo]at hgo
   simp -implicitDefEqProofs [f173,b173,Zf,hx,hxc,hia,c0,g0,plV,k2,hv,hwb,haf,hgo,hwo,Xd,UE,Tx.E,Tx.D,Tx.mv,Tx.nk,Tx.fa,Tx.ld,Tx.ia,Tx.la,Tx.al,Tx.ct,Tx.ex,Xg,ZT]
 rw[if_neg k2]
 have hno:=hg.no k2
 by_cases k1:x.Kind.n=1
 ·rw[if_pos k1]
  have hcd:=Zfo m hm hsm x.Code s
  generalize Y1 m x.Code.l s=q at hcd⊢
  obtain⟨o,j,e⟩:=q
  simp only at hcd⊢
  by_cases he:e=0
  ·subst he
   rw[if_pos rfl]
   have m1:=fun kv=>em (.arr e0) (.arr e1) [.arr e4,.arr e5,.arr e6,.arr [x.v]] P hP x.Yes.n (by omega) hy.2 o kv
   have m2:=fun kv=>em (.arr e0) (.arr e1) [.arr e4,.arr e5,.arr e6,.arr [x.v]] (atP P x.Yes.n.toNat o) (by simp[hP]) x.No.n (by omega) hno.2 o kv
   have hgo:=hgn (atP (atP P x.Yes.n.toNat o) x.No.n.toNat o)
   simp -implicitDefEqProofs [f173,b173,Zf,hx,hxc,hia,c0,g0,plV,k1,hcd,m1,m2,hgo,hzn,Xd,UE,Tx.E,Tx.D,Tx.mv,Tx.nk,Tx.fa,Tx.ld,Tx.ia,Tx.la,Tx.al,Tx.ct,Tx.ex,Xg,ZT]
  ·rw[if_neg he]
   have hgo:WP vp false [.arr e0,.arr e1,.arr [wkV m p (GL.v 6 Zs.v N) (.gsl 3 (n+1) 2 0 (n+1))],.arr (P.map plV),.arr e4,.arr e5,.arr e6] (.ptr 8 1 0 0)
    [.arr e0,.arr e1,.arr [wkV m p (GL.v 6 Zs.v N) (.gsl 3 (n+1) 2 0 (n+1))],.arr (P.map plV),.arr e4,.arr e5,.arr e6,.arr [x.v],.arr [wrV p i j e]]=(.eptr (wrV p i j e) 0 .perm,[.arr e0,.arr e1,.arr [wkV m p (GL.v 6 Zs.v N) (.gsl 3 (n+1) 2 0 (n+1))],.arr (P.map plV),.arr e4,.arr e5,.arr e6]):=by
    rw[Qw (r':=.eptr (wrV p i j e) 0 .perm) Zes (by simp) (by
     rw[ZeB (by simp)]
     simp)]
    rfl
   have hwo:wrO (some (p,(i:Int),j,e))=.eptr (wrV p i j e) 0 .perm:=rfl
   unfold wrV at hgo
   simp(maxSteps:=2000000) -implicitDefEqProofs [f173,b173,Zf,ZC,hx,hxc,hia,c0,g0,plV,k1,hcd,he,hgo,hwo,wrV,Xd,UE,Tx.E,Tx.D,Tx.mv,Tx.nk,Tx.fa,Tx.ld,Tx.ia,Tx.la,Tx.al,Tx.ct,Tx.ex,Xg,ZT]
 rw[if_neg k1]
 have m1:=fun kv=>em (.arr e0) (.arr e1) [.arr e4,.arr e5,.arr e6,.arr [x.v]] P hP x.Yes.n (by omega) hy.2 (VY s x.A.n) kv
 have m2:=fun kv=>em (.arr e0) (.arr e1) [.arr e4,.arr e5,.arr e6,.arr [x.v]] (atP P x.Yes.n.toNat (VY s x.A.n)) (by simp[hP]) x.No.n (by omega) hno.2 (Va s x.A.n) kv
 have hgo:=hgn (atP (atP P x.Yes.n.toNat (VY s x.A.n)) x.No.n.toNat (Va s x.A.n))
 simp -implicitDefEqProofs [f173,b173,Zf,hx,hxc,hia,c0,g0,plV,k0,k1,k2,m1,m2,hgo,hzn,Xd,UE,Tx.E,Tx.D,Tx.mv,Tx.nk,Tx.fa,Tx.ld,Tx.ia,Tx.la,Tx.al,Tx.ct,Tx.ex,Xg,ZT]
end
end Go.VE.Un
