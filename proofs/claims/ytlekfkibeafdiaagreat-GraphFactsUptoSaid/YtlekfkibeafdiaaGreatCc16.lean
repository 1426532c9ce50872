/- Joined texts: PtA, PtB, PtC, PtD, PtE, PtF, PtG, PtH, PtI, GrA. No condition: what each theorem needs stands in it. -/
import Derived.Test.YtlekfkibeafdiaaGreatCc15
import Derived.Test.YtlekfkibeafdiaaGreatCc14
namespace Go.VE.Un
open Go.VE
structure JD (m:Zb) (n i:Int) (x:Zs):Prop where
 k0:0≤x.Kind.n
 k3:x.Kind.n≤3
 nm:YZ m x=true
 yes:i+1≤x.Yes.n∧x.Yes.n≤n
 no:x.Kind.n≠2→i+1≤x.No.n∧x.No.n≤n
 code:x.Kind.n=1→Y3 m x.Code.l 0=0
def Y1(m:Zb)(l:List Ins)(s:Sl):Sl ×Int ×Int:=
 if Yr m=none∧Y3 m l 8=0 then(match Ys m l.length l 0 (Yk l.length s)with
  |(some (j,e),_)=>(0,j,e)
  |(none,P)=>((P.getD l.length (false,0)).2,0,0))else(0,0,1)
def wkV(m:Zb)(p:Int)(nd w:V):V:=.agg (m.cs++[.int .i64 p,nd,w])
section
variable (m : Zb) (p : Int) (nd w : V)
@[simp] theorem ZDp:ldc (wkV m p nd w) true 18 0=some m.v:=rfl
@[simp] theorem ZDs:ldc (wkV m p nd w) false 1 5=some (GL.v 3 Action.v m.Actions):=rfl
@[simp] theorem ZDv:ldc (wkV m p nd w) false 1 6=some (GL.v 7 ZD.v m.Tables):=rfl
@[simp] theorem ZDf:ldc (wkV m p nd w) false 1 18=some (.int .i64 p):=rfl
@[simp] theorem ZDb:ldc (wkV m p nd w) false 1 19=some nd:=rfl
@[simp] theorem ZC5:ldc (wkV m p nd w) false 1 20=some w:=rfl
@[simp] theorem ZDl:okV (wkV m p nd w)=true:=nr rfl
end
def wrV(p n a e:Int):V:=.agg [.int .i64 p,.int .i64 n,.int .i64 a,.int .i64 e]
@[simp] theorem Zs5(p n a e:Int):Ze (wrV p n a e)=true:=nr rfl
@[simp] theorem Zug(k:Nat)(p n a e:Int):Zk k (wrV p n a e)=true:=nr rfl
def keyB(s:Sl)(k:Key):Bool:=decide (k.Kind.n=0)&& !JW s k.A.n
def Jh(g:Key→Bool):List Key→Int→Int
 |[],_=> -1
 |k::r,i=>if g k=true then i else Jh g r (i+1)
theorem Znl(f:Nat)(C:V)(g:Key→Bool)(hro:U1 vp f=true)(hcall: ∀(h:Zg) (args:List V) (kv:V→Zg→Option (Ex ×Fr ×Zg)),YU (orc vp) vp 0 h f args kv=roK vp h f args kv)(hC:Zk 0 C=true)(hg: ∀k:Key,Zc vp f [k.v,C]=some (.bool (g k)))(l:GL Key): ∀(r:List Key) (i:Int),0≤i→i≤l.l.length→l.l.drop i.toNat=r→∃fr,(orc vp).loop 0 [0,1,7,8] Zc5 [(0,GL.v 3 Key.v l),(1,.func f [] [C]),(7,.int .i64 l.l.length),(8,.int .i64 i)] []=
 some (if Jh g r i= -1 then .brk 0 else .ret,(if Jh g r i= -1 then fr else[(4,.int .i64 (Jh g r i))]),[]):=by
 have hle:=l.le
 intro r
 induction r with
 |nil=>
  intro i hi hi2 hd
  have:=Zq hi hd
  have e:i=l.l.length:=by omega
  subst e
  refine⟨[(0,GL.v 3 Key.v l),(1,.func f [] [C]),(7,.int .i64 l.l.length),(8,.int .i64 l.l.length),(9,.bool false)],?_⟩
  rw[Zas]
  simp -implicitDefEqProofs [UQ,Jh]
 |cons k r ih=>
  intro i hi hi2 hd
  obtain⟨h1,h2,h3⟩:=Zp hi hd
  have w1:IntKind.i64.wrap (i+1)=i+1:=ZK (by omega) (by omega)
  obtain⟨fr,ih⟩:=ih (i+1) (by omega) (by omega) h3
  have hk:=hg k
  have hne: ¬i= -1:=by omega
  by_cases c:g k=true
  ·refine⟨[],?_⟩
   rw[Zas]
   simp -implicitDefEqProofs [UQ,h1,h2,hro,hcall,hC,hk,c,Jh,hne]
  ·have e:Jh g (k::r) i=Jh g r (i+1):=by simp only[Jh];rw[if_neg c]
   refine⟨fr,?_⟩
   rw[Zas,e,←ih]
   simp -implicitDefEqProofs [UQ,h1,h2,hro,hcall,hC,hk,c,w1]
theorem Zoy(f:Nat)(C:V)(g:Key→Bool)(hro:U1 vp f=true)(hcall: ∀(h:Zg) (args:List V) (kv:V→Zg→Option (Ex ×Fr ×Zg)),YU (orc vp) vp 0 h f args kv=roK vp h f args kv)(hC:Zk 0 C=true)(hg: ∀k:Key,Zc vp f [k.v,C]=some (.bool (g k)))(l:GL Key):
 Zc vp 1198 [GL.v 3 Key.v l,.func f [] [C]]=some (.int .i64 (Jh g l.l 0)):=by
 obtain⟨fr,hl⟩:=Znl f C g hro hcall hC hg l l.l 0 (by omega) (by omega) rfl
 rw[Za Zr5]
 by_cases c:Jh g l.l 0= -1
 ·rw[if_pos c,if_pos c]at hl
  simp -implicitDefEqProofs [f1198,b1198,hl,c]
 ·rw[if_neg c,if_neg c]at hl
  simp -implicitDefEqProofs [f1198,b1198,hl]
def JO(l:List Key)(s:Sl):Int:=Jh (keyB s) l 0
end Go.VE.Un
namespace Go.VE
theorem Qw{vp:VP}{h h1:Zg}{r r':V}(hg:vp.gc=true)(ho:Qu h h1=true)(hf:frz h.length h1 4 r=some r'):WP vp false h r h1=(r',h1.take h.length):=by
 unfold WP
 rw[if_pos (by simp[hg,ho]),hf]
theorem UE{β:Type}{O:Orc}{vp:VP}{lo:Nat}{fr:Fr}{h:Zg}{k:Fr→Zg→Option β}{n a x i b:Nat}{xl:List Nat}{r:List VDt}{p:Nat}{rs:List Jf}:
 dK O vp lo (⟨⟨none,.store n true (.t a) (.t x),none⟩,i,b,xl⟩::r) p rs fr h k=((fzV lo h (lk fr x)).bind fun q=>Xp lo q.2 n (lk fr a) q.1).bind fun h'=>if(rs.all fun e=> !xl.contains e.p||ZT (Yv h' e.agg e.n e.a) e.v)=true then dK O vp lo r (p+1) rs fr h' k else none:=by
 unfold dK
 simp only[Ur,ZY,ZM,ZnK,if_true]
 cases fzV lo h (lk fr x)with
 |none=>rfl
 |some q=>
  simp only[Option.bind_some]
  cases Xp lo q.2 n (lk fr a) q.1 with
  |none=>rfl
  |some h'=>
   simp only[Option.map_some,Option.bind_some,ZaR,Xg,List.nil_append]
   split<;>rfl
end Go.VE
namespace Go.VE.Un
open Go.VE
theorem iaG{B ep z:Nat}{i:Int}(h0:0≤i)(h1:i<(ep:Int)):Yb z (.gsl B ep z 0 ep) (.int .i64 i)=some (.ptr B ep i.toNat 0):=by simp[Yb,h0,h1]
section
variable (m : Zb) (p : Int) (nd : V) (n : Nat)
end
end Go.VE.Un
namespace Go.VE.Un
open Go.VE
abbrev Wr:=Int ×Int ×Int ×Int
def WZ(m:Zb)(a:Int):List Ins:=match Zh m.Actions.l a with|some x=>x.Code.l|none=>[]
section
variable (m : Zb) (hm : Clo m) (hsm : Z2 m) (p : Int) (nd : V) (hnd : Zk 0 nd = true) (n : Nat) (e0 e1 e4 e5 e6 e7 : List V)
include hm hsm hnd in
end
end Go.VE.Un
namespace Go.VE.Un
open Go.VE
section
variable (m : Zb) (hm : Clo m) (hsm : Z2 m) (hc : Yr m = none) (p : Int) (nd : V) (hnd : Zk 0 nd = true) (n : Nat) (e0 e1 e4 e5 e6 e7 : List V)
include hm hsm hc hnd in
end
end Go.VE.Un
namespace Go.VE.Un
open Go.VE
section
variable (m : Zb) (hm : Clo m) (hsm : Z2 m) (hc : Yr m = none) (p : Int) (N : GL Zs) (n : Nat) (e0 e1 e4 e5 e6 : List V)
include hm hsm hc in
end
end Go.VE.Un
namespace Go.VE
theorem Zhh{β:Type}{O:Orc}{vp:VP}{lo:Nat}{fr:Fr}{h:Zg}{k:Fr→Zg→Option β}{n a i b:Nat}{v:V}{xl:List Nat}{r:List VDt}{p:Nat}{rs:List Jf}:
 dK O vp lo (⟨⟨none,.store n false (.t a) (.c v),none⟩,i,b,xl⟩::r) p rs fr h k=(Xp lo h n (lk fr a) v).bind fun h'=>if(rs.all fun e=> !xl.contains e.p||ZT (Yv h' e.agg e.n e.a) e.v)=true then dK O vp lo r (p+1) rs fr h' k else none:=by
 unfold dK
 simp only[Ur,ZY,ZM,ZnK,Zve,Bool.false_eq_true,if_false]
 cases Xp lo h n (lk fr a) v with
 |none=>rfl
 |some h'=>
  simp only[Option.map_some,Option.bind_some,ZaR,Xg,List.nil_append]
  split<;>rfl
def ZtY(v:V):Option V:=
 match v with
 |.ptr B ep i o=>some (.ptr B ep i o)
 |.eptr e o t=>some (.eptr e o t)
 |.func f a b=>some (.func f a b)
 |.iface t v=>some (.iface t v)
 |_=>none
theorem QU(fr:Fr)(a:Nat):Zf fr (.nilchk (.t a))=ZtY (lk fr a):=rfl
@[simp] theorem Zyn(B ep i o:Nat):ZtY (.ptr B ep i o)=some (.ptr B ep i o):=rfl
@[simp] theorem Zuz(e:V)(o:Nat)(t:Tag):ZtY (.eptr e o t)=some (.eptr e o t):=rfl
theorem slK(fr:Fr)(n k:Nat)(v:V)(hc:v.cells.length=n)(ho:okV v=true):Zf ((k,v)::fr) (.buildSl n [.t k])=some (.sl n [v] .ce):=KA n k v hc ho _ (by simp)
end Go.VE
namespace Go.VE.Un
open Go.VE
def bS(S:List (Bool ×Sl)):List V:=S.map fun q=>.bool q.1
def sS(S:List (Bool ×Sl)):List V:=S.map fun q=>sV q.2
theorem Zle(S:List (Bool ×Sl)):Zv (bS S)=true:=by unfold bS;rw[YR];simp
theorem ZkK(S:List (Bool ×Sl)):Zv (sS S)=true:=by unfold sS;rw[YR];simp
theorem ZfR{vp:VP}{h h1:Zg}{fr:Fr}(ho:Qu h h1=false):X1 vp h fr h1=h1:=by simp[X1,ho]
section
variable (m : Zb) (hm : Clo m) (hsm : Z2 m) (hc : Yr m = none) (p : Int) (N : GL Zs) (hcl : Ze (GL.v 6 Zs.v N) = true) (n : Nat) (hn : N.l.length = n) (hn2 : n ≤ 32) (hg : ∀ i x, Zh N.l i = some x → JD m n i x) (e0 : List V)
include hm hsm hc hcl hn hn2 hg in
include hm hsm hc hcl hn hn2 hg in
end
end Go.VE.Un
namespace Go.VE.Un
open Go.VE
def tg(n:Nat):Tag:=if n=0 then .nl else .perm
section
variable (m : Zb) (p q : Int) (nd w : V)
end
end Go.VE.Un
namespace Go.VE.Un
open Go.VE
end Go.VE.Un
namespace Go.VE.Un
open Go.VE
end Go.VE.Un
namespace Go.VE.Un
open Go.VE
def ZDw:List Ext→Sl→Sl
 |[],s=>s
 |x::r,s=>ZDw r (if x.Kind.n=0 then VY s x.N.n else s)
theorem ZFA(e0:List V)(l:GL Ext): ∀(r:List Ext) (k:Int) (s:Sl),0≤k→k≤l.l.length→l.l.drop k.toNat=r→∃fr,(orc vp).loop 0 [1,8,9,10] ZEM [(1,sV s),(8,GL.v 2 Ext.v l),(9,.int .i64 l.l.length),(10,.int .i64 k)] [.arr e0]=
 some (.brk 0,(1,sV (ZDw r s))::fr,[.arr e0]):=by
 have hle:=l.le
 intro r
 induction r with
 |nil=>
  intro k s hk hk2 hd
  have:=Zq hk hd
  have e:k=l.l.length:=by omega
  subst e
  refine⟨[(8,GL.v 2 Ext.v l),(9,.int .i64 l.l.length),(10,.int .i64 l.l.length),(11,.bool false)],?_⟩
  rw[ZEo]
  simp -implicitDefEqProofs [ZDY,ZDw]
 |cons x r ih=>
  intro k s hk hk2 hd
  obtain⟨h1,h2,h3⟩:=Zp hk hd
  have w1:IntKind.i64.wrap (k+1)=k+1:=ZK (by omega) (by omega)
  simp only[ZDw]
  by_cases c:x.Kind.n=0
  ·rw[if_pos c]
   obtain⟨fr,ih⟩:=ih (k+1) (VY s x.N.n) (by omega) (by omega) h3
   refine⟨fr,?_⟩
   rw[ZEo,←ih]
   simp -implicitDefEqProofs [ZDY,h1,h2,w1,c]
  ·rw[if_neg c]
   obtain⟨fr,ih⟩:=ih (k+1) s (by omega) (by omega) h3
   refine⟨fr,?_⟩
   rw[ZEo,←ih]
   simp -implicitDefEqProofs [ZDY,h1,h2,w1,c]
theorem ZD6(x:ZJ)(s:Sl):Zc vp 472 [x.v,sV s]=some (sV (ZDw x.Exts.l s)):=by
 obtain⟨fr,hl⟩:=ZFA [x.v] x.Exts x.Exts.l 0 s (by omega) (by omega) rfl
 rw[Za ZF1]
 simp -implicitDefEqProofs [f472,b472,hl]
theorem ZFQ(k:Key)(s:Sl):Zc vp 476 [k.v,.eptr (sV s) 0 .brw]=some (.bool (keyB s k)):=by
 rw[Za ZFY]
 unfold keyB
 by_cases c:k.Kind.n=0
 ·simp -implicitDefEqProofs [f476,b476,c]
 ·simp -implicitDefEqProofs [f476,b476,c]
theorem ZFm(x:ZJ)(s:Sl):Zc vp 475 [x.v,sV s]=some (.int .i64 (JO x.Keys.l s)):=by
 have h:=Zoy 476 (.eptr (sV s) 0 .brw) (keyB s) (by simp) (fun h args kv=>by simp) rfl (fun k=>ZFQ k s) x.Keys
 rw[Za ZFU]
 simp -implicitDefEqProofs [f475,b475,h,JO]
theorem ZEu(fr:Fr)(k:Nat)(s:Sl)(e:lk fr k=sV s):Zf fr (.build [.bool false,.int .u64 0] [(0,1,.c (.bool true)),(1,1,.t k)])=some (plV (true,s)):=by
 simp[Zf,ZC,e,sV,plV]
theorem ZEk(q:Bool ×Sl)(s:Sl):Zc vp 329 [plV q,sV s]=some (plV (Js q s)):=by
 obtain⟨r,t⟩:=q
 have b1:=fun fr=>ZEu ((12,sV s)::fr) 12 s (by simp)
 have b2:=fun fr=>ZEu ((10,sV (t&&&s))::fr) 10 (t&&&s) (by simp)
 rw[Za ZF3]
 cases r
 ·simp -implicitDefEqProofs [f329,b329,b1,plV,Js]
 ·simp -implicitDefEqProofs [f329,b329,b2,plV,Js]
def ZGb(x:ZJ):List Int:=x.Next.n::x.Cases.l.map (·.Next.n)
def nxT(x:ZJ):Tag:=if x.Cases.l=[]then .ce else .perm
def nxV(x:ZJ):V:=.sl 1 ((ZGb x).map (V.int .i64)) (nxT x)
theorem ZFD(e0 c0:List V)(l:GL Z7): ∀(r:List Z7) (k:Int) (n:Nat) (L:List Int),0≤k→k≤l.l.length→l.l.drop k.toNat=r→L.length=n→n+r.length≤10000000→∃fr n',n'=n+r.length∧(orc vp).loop 0 [3,10,11,12] ZD4 [(3,.gsl 2 n 1 0 n),(10,GL.v 7 Z7.v l),(11,.int .i64 l.l.length),(12,.int .i64 k)] [.arr e0,.arr c0,.arr (L.map (V.int .i64))]=
 some (.brk 0,(3,.gsl 2 n' 1 0 n')::fr,[.arr e0,.arr c0,.arr ((L++r.map (·.Next.n)).map (V.int .i64))]):=by
 have hle:=l.le
 intro r
 induction r with
 |nil=>
  intro k n L hk hk2 hd hL hb
  have:=Zq hk hd
  have e:k=l.l.length:=by omega
  subst e
  refine⟨[(10,GL.v 7 Z7.v l),(11,.int .i64 l.l.length),(12,.int .i64 l.l.length),(13,.bool false)],n,rfl,?_⟩
  rw[ZEc]
  simp -implicitDefEqProofs [ZDR]
 |cons x r ih=>
  intro k n L hk hk2 hd hL hb
  obtain⟨h1,h2,h3⟩:=Zp hk hd
  have w1:IntKind.i64.wrap (k+1)=k+1:=ZK (by omega) (by omega)
  obtain⟨n2,hn2⟩: ∃n2,n+1=n2:=⟨_,rfl⟩
  simp only[List.length_cons]at hb
  obtain⟨fr,n',e',ih⟩:=ih (k+1) n2 (L++[x.Next.n]) (by omega) (by omega) h3 (by simp[hL,hn2]) (by omega)
  refine⟨fr,n',by simp only[List.length_cons];omega,?_⟩
  have hap: ∀a b d,X3 0 [a,b,.arr (L.map (V.int .i64)),d] 1 8 (.gsl 2 n 1 0 n) [.int .i64 x.Next.n]=some (.gsl 2 n2 1 0 n2,[a,b,.arr (L.map (V.int .i64)++[.int .i64 x.Next.n]),d]):=fun a b d=>by
   rw[KY (es:=L.map (V.int .i64)) (by simp) (by simp[hL]) (by omega) rfl (by unfold YC;simp;omega)]
   simp[hn2]
  have hs1:=fun fr=>slK fr 1 18 (.int .i64 x.Next.n) rfl rfl
  have lz1: ∀(h:Zg) v,Wl h 1 (.sl 1 [v] .ce)=some [v]:=fun _ _=>rfl
  have e1:(L++(x::r).map (·.Next.n)).map (V.int .i64)=((L++[x.Next.n])++r.map (·.Next.n)).map (V.int .i64):=by simp
  have e2:(L++[x.Next.n]).map (V.int .i64)=L.map (V.int .i64)++[.int .i64 x.Next.n]:=by simp
  have hbl:=fun k=>Yq (k:=k) (f:=V.int .i64) (fun _=>rfl) L
  have hb2:=fun k=>Yq (k:=k) (f:=V.int .i64) (fun _=>rfl) (L++[x.Next.n])
  rw[e2]at hb2
  rw[ZEc,e1,←ih,e2]
  generalize L.map (V.int .i64)=A at*
  simp -implicitDefEqProofs [ZDR,h1,h2,w1,hap,hs1,lz1,hbl,hb2]
theorem ZD0(x:ZJ)(hb:x.Cases.l.length≤1000000):Zc vp 478 [x.v]=some (nxV x):=by
 unfold nxV nxT ZGb
 cases hC:x.Cases.l with
 |nil=>
  rw[Za ZFI]
  have hl:(orc vp).loop 0 [3,10,11,12] ZD4 [(3,.sl 1 [.int .i64 x.Next.n] .ce),(10,GL.v 7 Z7.v x.Cases),(11,.int .i64 0),(12,.int .i64 0)] [.arr [x.v]]=some (.brk 0,[(3,.sl 1 [.int .i64 x.Next.n] .ce),(10,GL.v 7 Z7.v x.Cases),(11,.int .i64 0),(12,.int .i64 0),(13,.bool false)],[.arr [x.v]]):=by
   rw[ZEc]
   simp -implicitDefEqProofs [ZDR]
  have hs1:=fun fr=>slK fr 1 7 (.int .i64 x.Next.n) rfl rfl
  simp -implicitDefEqProofs [f478,b478,hs1,hC,hl]
 |cons y r=>
  have hne: ¬(y::r)=[]:=by simp
  rw[if_neg hne]
  have hlen:(r.length:Int)+1≤1000000:=by rw[hC]at hb;simp only[List.length_cons]at hb;omega
  obtain⟨h1,h2,h3⟩:=Zp (l:=x.Cases.l) (k:=0) (x:=y) (r:=r) (by omega) (by rw[hC];rfl)
  obtain⟨fr,n',e',hl⟩:=ZFD [x.v] [y.v] x.Cases r 1 2 [x.Next.n,y.Next.n] (by omega) (by rw[hC];simp only[List.length_cons];omega) (by rw[hC];rfl) rfl (by omega)
  have hs1:=fun fr=>slK fr 1 7 (.int .i64 x.Next.n) rfl rfl
  have hs2:=fun fr=>slK fr 1 18 (.int .i64 y.Next.n) rfl rfl
  have lz1: ∀(h:Zg) v,Wl h 1 (.sl 1 [v] .ce)=some [v]:=fun _ _=>rfl
  have w1:IntKind.i64.wrap 1=1:=ZK (by omega) (by omega)
  have hap: ∀a b,X3 0 [a,b] 1 8 (.sl 1 [.int .i64 x.Next.n] .ce) [.int .i64 y.Next.n]=some (.gsl 2 2 1 0 2,[a,b,.arr [.int .i64 x.Next.n,.int .i64 y.Next.n]]):=fun a b=>by simp[X3,Qh,YC]
  have hl1:(orc vp).loop 0 [3,10,11,12] ZD4 [(3,.sl 1 [.int .i64 x.Next.n] .ce),(10,GL.v 7 Z7.v x.Cases),(11,.int .i64 x.Cases.l.length),(12,.int .i64 0)] [.arr [x.v]]=
   (orc vp).loop 0 [3,10,11,12] ZD4 [(3,.gsl 2 2 1 0 2),(10,GL.v 7 Z7.v x.Cases),(11,.int .i64 x.Cases.l.length),(12,.int .i64 1)] [.arr [x.v],.arr [y.v],.arr [.int .i64 x.Next.n,.int .i64 y.Next.n]]:=by
   rw[ZEc]
   have h2n:0<x.Cases.l.length:=by omega
   have hgl: ∀a b fr,X1 vp [a] ((3,.gsl 2 2 1 0 2)::fr) b=b:=fun a b fr=>by simp[X1,Zo,Zk]
   simp -implicitDefEqProofs [ZDR,h1,h2,h2n,hap,hs2,lz1,w1,hgl]
  have e2:([x.Next.n,y.Next.n]++r.map (·.Next.n))=x.Next.n::(y::r).map (·.Next.n):=rfl
  have e3:[x.Next.n,y.Next.n].map (V.int .i64)=[.int .i64 x.Next.n,.int .i64 y.Next.n]:=rfl
  rw[e2,e3]at hl
  have hn':n'=(x.Next.n::(y::r).map (·.Next.n)).length:=by simp[e'];omega
  have k1:YG ((x.Next.n::(y::r).map (·.Next.n)).map (V.int .i64)) n'=some ((x.Next.n::(y::r).map (·.Next.n)).map (V.int .i64)):=Yt (by simp[hn'])
  have k2:ZaK n' 0 n' ((x.Next.n::(y::r).map (·.Next.n)).map (V.int .i64))=some ((x.Next.n::(y::r).map (·.Next.n)).map (V.int .i64)):=Qy (by simp[hn'])
  have k3:Zv ((x.Next.n::(y::r).map (·.Next.n)).map (V.int .i64))=true:=by rw[YR];simp
  rw[hl]at hl1
  rw[Za ZFI]
  generalize (x.Next.n::(y::r).map (·.Next.n)).map (V.int .i64)=A at*
  simp -implicitDefEqProofs [f478,b478,hs1,hl1,k1,k2,k3]
end Go.VE.Un
