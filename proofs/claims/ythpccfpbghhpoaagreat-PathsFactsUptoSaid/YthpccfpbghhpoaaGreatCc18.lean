/- Joined texts: PtE, PtF, PtG, PtH. No condition: what each theorem needs stands in it. -/
import Derived.Test.YthpccfpbghhpoaaGreatCc17
import Derived.Test.YthpccfpbghhpoaaGreatCc14
namespace Go.VE.Un
open Go.VE
def Vr(m:Zb)(p i:Int)(x:Zs)(P:List (Bool ×Sl))(s:Sl):Option Wr ×List (Bool ×Sl):=
 if x.Kind.n=0 then UC m p i x P s
 else if x.Kind.n=2 then(if(Y1 m (WZ m x.A.n) s).2.2=0 then(none,atP P x.Yes.n.toNat (Y1 m (WZ m x.A.n) s).1)else(some (5,x.A.n,(Y1 m (WZ m x.A.n) s).2.1,(Y1 m (WZ m x.A.n) s).2.2),P))
 else if x.Kind.n=1 then(if(Y1 m x.Code.l s).2.2=0 then(none,atP (atP P x.Yes.n.toNat (Y1 m x.Code.l s).1) x.No.n.toNat (Y1 m x.Code.l s).1)else(some (p,i,(Y1 m x.Code.l s).2.1,(Y1 m x.Code.l s).2.2),P))
 else(none,atP (atP P x.Yes.n.toNat (VY s x.A.n)) x.No.n.toNat (Va s x.A.n))
theorem Zf3(m:Zb)(p i:Int)(x:Zs)(P:List (Bool ×Sl))(s:Sl):(UC m p i x P s).2.length=P.length:=by
 unfold UC
 split
 ·rfl
 ·split
  ·rfl
  ·exact K6 ..
theorem J3(m:Zb)(p i:Int)(x:Zs)(P:List (Bool ×Sl))(s:Sl):(Vr m p i x P s).2.length=P.length:=by
 unfold Vr
 split
 ·exact Zf3 ..
 ·split
  ·split<;>simp
  ·split
   ·split<;>simp
   ·simp
section
variable (m : Zb) (hm : Clo m) (hsm : Z2 m) (hc : Yr m = none) (p : Int) (N : GL Zs) (n : Nat) (e0 e1 e4 e5 e6 : List V)
include hm hsm hc in
set_option maxHeartbeats 4000000 in
theorem Zjh{β:Type}(i:Nat)(x:Zs)(hx:Zh N.l (i:Int)=some x)(hxc:Ze x.v=true)(hg:JD m n i x)(P:List (Bool ×Sl))(hP:P.length=n+1)(r:Bool)(s:Sl)(hs:P.getD i (false,0)=(r,s))(hin:i<n)(kv:V→Zg→Option β):rwK vp 0 [.arr e0,.arr e1,.arr [wkV m p (GL.v 6 Zs.v N) (.gsl 3 (n+1) 2 0 (n+1))],.arr (P.map plV),.arr e4,.arr e5,.arr e6] 173 [.ptr 2 1 0 0,.int .i64 i] kv=
 kv (wrO (Vr m p i x P s).1) [.arr e0,.arr e1,.arr [wkV m p (GL.v 6 Zs.v N) (.gsl 3 (n+1) 2 0 (n+1))],.arr ((Vr m p i x P s).2.map plV),.arr e4,.arr e5,.arr e6]:=by
 have hnd:Zk 0 (GL.v 6 Zs.v N)=true:=by simp
 have c0:YG (P.map plV) (n+1)=some (P.map plV):=Yt (by simp[hP])
 have g0:(P.map plV)[i]? =some (plV (r,s)):=by
  have:i<P.length:=by omega
  rw[List.getElem?_map,←hs,List.getD_eq_getElem?_getD,List.getElem?_eq_getElem this];rfl
 have hia:=iaG (B:=3) (z:=2) (ep:=n+1) (i:=(i:Int)) (by omega) (by omega)
 rw[Int.toNat_natCast]at hia
 have bP:=fun(P:List (Bool ×Sl))=>Yq (k:=7) (fun q=>Uy 7 q) P
 have hgc: ∀(o:Option Wr) (P2:List (Bool ×Sl)),WP vp false [.arr e0,.arr e1,.arr [wkV m p (GL.v 6 Zs.v N) (.gsl 3 (n+1) 2 0 (n+1))],.arr (P.map plV),.arr e4,.arr e5,.arr e6] (wrO o)
  [.arr e0,.arr e1,.arr [wkV m p (GL.v 6 Zs.v N) (.gsl 3 (n+1) 2 0 (n+1))],.arr (P2.map plV),.arr e4,.arr e5,.arr e6,.arr [x.v]]=(wrO o,[.arr e0,.arr e1,.arr [wkV m p (GL.v 6 Zs.v N) (.gsl 3 (n+1) 2 0 (n+1))],.arr (P2.map plV),.arr e4,.arr e5,.arr e6]):=fun o P2=>by
  rw[Qw (r':=wrO o) Zes (by simp[bP]) (by
   cases o with
   |none=>simp[wrO]
   |some w=>obtain⟨a,b,c,d⟩:=w;simp[wrO,Ze])]
  rfl
 have hv:=fun {b0 b1 b2 T}=>ZfI (b0:=b0) (b1:=b1) (b2:=b2) (T:=T) (m:=m) (p:=p) (nd:=GL.v 6 Zs.v N) hP hnd
 have hwb:Zk 0 (wkV m p (GL.v 6 Zs.v N) (.sl 2 (P.map plV) .brw))=true:=by
  have:=Yq (k:=0) (fun q=>Uy 0 q) P
  unfold wkV Zb.cs;simp[this]
 have em:=fun b0 b1 T Q hQ=>Zao (β:=V ×Zg) m p (GL.v 6 Zs.v N) n b0 b1 T Q hQ
 have hy:=hg.yes
 have hzn:wrO none=.nilp:=rfl
 have hgn:=hgc none
 rw[hzn]at hgn
 unfold rwK
 rw[K9 Zry]
 unfold Vr
 by_cases k0:x.Kind.n=0
 ·rw[if_pos k0]
  have hap:=fun kv=>ZmD (β:=V ×Zg) m hm hsm hc p (GL.v 6 Zs.v N) hnd n e0 e1 e4 e5 e6 [x.v] (i:Int) x hg (by omega) k0 P hP s kv
  generalize UC m p (i:Int) x P s=q at hap⊢
  obtain⟨o,P2⟩:=q
  have hgo:=hgc o P2
  simp only at hap
  simp -implicitDefEqProofs [f173,b173,Zf,hx,hxc,hia,c0,g0,plV,k0,hap,hgo,Xd,UE,Tx.E,Tx.D,Tx.mv,Tx.nk,Tx.fa,Tx.ld,Tx.ia,Tx.la,Tx.al,Tx.ct,Tx.ex,Xg,ZT]
 rw[if_neg k0]
 by_cases k2:x.Kind.n=2
 ·rw[if_pos k2]
  obtain⟨act,hact⟩:=ZyL hg.nm k2
  have hco:WZ m x.A.n=act.Code.l:=by unfold WZ;rw[hact]
  have haf:=Zek m hm hsm p (GL.v 6 Zs.v N) (.sl 2 (P.map plV) .brw) x.A.n act hact s
  rw[←hco]at haf
  generalize Y1 m (WZ m x.A.n) s=q at haf⊢
  obtain⟨o,j,e⟩:=q
  simp only at haf⊢
  by_cases he:e=0
  ·rw[if_pos he]at haf⊢
   have m1:=fun kv=>em (.arr e0) (.arr e1) [.arr e4,.arr e5,.arr e6,.arr [x.v]] P hP x.Yes.n (by omega) hy.2 o kv
   have hgo:=hgn (atP P x.Yes.n.toNat o)
   simp -implicitDefEqProofs [f173,b173,Zf,hx,hxc,hia,c0,g0,plV,k2,hv,hwb,haf,m1,hgo,hzn,Xd,UE,Tx.E,Tx.D,Tx.mv,Tx.nk,Tx.fa,Tx.ld,Tx.ia,Tx.la,Tx.al,Tx.ct,Tx.ex,Xg,ZT]
  ·rw[if_neg he]at haf⊢
   have hgo:=hgc (some (5,x.A.n,j,e)) P
   have hwo:wrO (some (5,x.A.n,j,e))=.eptr (wrV 5 x.A.n j e) 0 .perm:=rfl
   rw[hwo]at hgo
   simp -implicitDefEqProofs [f173,b173,Zf,hx,hxc,hia,c0,g0,plV,k2,hv,hwb,haf,hgo,hwo,Xd,UE,Tx.E,Tx.D,Tx.mv,Tx.nk,Tx.fa,Tx.ld,Tx.ia,Tx.la,Tx.al,Tx.ct,Tx.ex,Xg,ZT]
 rw[if_neg k2]
 have hno:=hg.no k2
 by_cases k1:x.Kind.n=1
 ·rw[if_pos k1]
  have hcd:=Zfo m hm hsm x.Code s
  generalize Y1 m x.Code.l s=q at hcd⊢
  obtain⟨o,j,e⟩:=q
  simp only at hcd⊢
  by_cases he:e=0
  ·subst he
   rw[if_pos rfl]
   have m1:=fun kv=>em (.arr e0) (.arr e1) [.arr e4,.arr e5,.arr e6,.arr [x.v]] P hP x.Yes.n (by omega) hy.2 o kv
   have m2:=fun kv=>em (.arr e0) (.arr e1) [.arr e4,.arr e5,.arr e6,.arr [x.v]] (atP P x.Yes.n.toNat o) (by simp[hP]) x.No.n (by omega) hno.2 o kv
   have hgo:=hgn (atP (atP P x.Yes.n.toNat o) x.No.n.toNat o)
   simp -implicitDefEqProofs [f173,b173,Zf,hx,hxc,hia,c0,g0,plV,k1,hcd,m1,m2,hgo,hzn,Xd,UE,Tx.E,Tx.D,Tx.mv,Tx.nk,Tx.fa,Tx.ld,Tx.ia,Tx.la,Tx.al,Tx.ct,Tx.ex,Xg,ZT]
  ·rw[if_neg he]
   have hgo:WP vp false [.arr e0,.arr e1,.arr [wkV m p (GL.v 6 Zs.v N) (.gsl 3 (n+1) 2 0 (n+1))],.arr (P.map plV),.arr e4,.arr e5,.arr e6] (.ptr 8 1 0 0)
    [.arr e0,.arr e1,.arr [wkV m p (GL.v 6 Zs.v N) (.gsl 3 (n+1) 2 0 (n+1))],.arr (P.map plV),.arr e4,.arr e5,.arr e6,.arr [x.v],.arr [wrV p i j e]]=(.eptr (wrV p i j e) 0 .perm,[.arr e0,.arr e1,.arr [wkV m p (GL.v 6 Zs.v N) (.gsl 3 (n+1) 2 0 (n+1))],.arr (P.map plV),.arr e4,.arr e5,.arr e6]):=by
    rw[Qw (r':=.eptr (wrV p i j e) 0 .perm) Zes (by simp) (by
     rw[ZeB (by simp)]
     simp)]
    rfl
   have hwo:wrO (some (p,(i:Int),j,e))=.eptr (wrV p i j e) 0 .perm:=rfl
   unfold wrV at hgo
   simp(maxSteps:=2000000) -implicitDefEqProofs [f173,b173,Zf,ZC,hx,hxc,hia,c0,g0,plV,k1,hcd,he,hgo,hwo,wrV,Xd,UE,Tx.E,Tx.D,Tx.mv,Tx.nk,Tx.fa,Tx.ld,Tx.ia,Tx.la,Tx.al,Tx.ct,Tx.ex,Xg,ZT]
 rw[if_neg k1]
 have m1:=fun kv=>em (.arr e0) (.arr e1) [.arr e4,.arr e5,.arr e6,.arr [x.v]] P hP x.Yes.n (by omega) hy.2 (VY s x.A.n) kv
 have m2:=fun kv=>em (.arr e0) (.arr e1) [.arr e4,.arr e5,.arr e6,.arr [x.v]] (atP P x.Yes.n.toNat (VY s x.A.n)) (by simp[hP]) x.No.n (by omega) hno.2 (Va s x.A.n) kv
 have hgo:=hgn (atP (atP P x.Yes.n.toNat (VY s x.A.n)) x.No.n.toNat (Va s x.A.n))
 simp -implicitDefEqProofs [f173,b173,Zf,hx,hxc,hia,c0,g0,plV,k0,k1,k2,m1,m2,hgo,hzn,Xd,UE,Tx.E,Tx.D,Tx.mv,Tx.nk,Tx.fa,Tx.ld,Tx.ia,Tx.la,Tx.al,Tx.ct,Tx.ex,Xg,ZT]
end
end Go.VE.Un
namespace Go.VE
theorem Zhh{β:Type}{O:Orc}{vp:VP}{lo:Nat}{fr:Fr}{h:Zg}{k:Fr→Zg→Option β}{n a i b:Nat}{v:V}{xl:List Nat}{r:List VDt}{p:Nat}{rs:List Jf}:
 dK O vp lo (⟨⟨none,.store n false (.t a) (.c v),none⟩,i,b,xl⟩::r) p rs fr h k=(Xp lo h n (lk fr a) v).bind fun h'=>if(rs.all fun e=> !xl.contains e.p||ZT (Yv h' e.agg e.n e.a) e.v)=true then dK O vp lo r (p+1) rs fr h' k else none:=by
 unfold dK
 simp only[Ur,ZY,ZM,ZnK,Zve,Bool.false_eq_true,if_false]
 cases Xp lo h n (lk fr a) v with
 |none=>rfl
 |some h'=>
  simp only[Option.map_some,Option.bind_some,ZaR,Xg,List.nil_append]
  split<;>rfl
def ZtY(v:V):Option V:=
 match v with
 |.ptr B ep i o=>some (.ptr B ep i o)
 |.eptr e o t=>some (.eptr e o t)
 |.func f a b=>some (.func f a b)
 |.iface t v=>some (.iface t v)
 |_=>none
theorem QU(fr:Fr)(a:Nat):Zf fr (.nilchk (.t a))=ZtY (lk fr a):=rfl
@[simp] theorem Zyn(B ep i o:Nat):ZtY (.ptr B ep i o)=some (.ptr B ep i o):=rfl
@[simp] theorem Zuz(e:V)(o:Nat)(t:Tag):ZtY (.eptr e o t)=some (.eptr e o t):=rfl
theorem slK(fr:Fr)(n k:Nat)(v:V)(hc:v.cells.length=n)(ho:okV v=true):Zf ((k,v)::fr) (.buildSl n [.t k])=some (.sl n [v] .ce):=KA n k v hc ho _ (by simp)
end Go.VE
namespace Go.VE.Un
open Go.VE
def X2(m:Zb)(p:Int):List Zs→Nat→List (Bool ×Sl)→Option Wr ×List (Bool ×Sl)×List (Bool ×Sl)
 |[],_,P=>(none,P,[])
 |x::r,i,P=>
  if(P.getD i (false,0)).1=false then((X2 m p r (i+1) P).1,(X2 m p r (i+1) P).2.1,P.getD i (false,0)::(X2 m p r (i+1) P).2.2)
  else match Vr m p i x P (P.getD i (false,0)).2 with
   |(some w,P')=>(some w,P',[])
   |(none,P')=>((X2 m p r (i+1) P').1,(X2 m p r (i+1) P').2.1,P.getD i (false,0)::(X2 m p r (i+1) P').2.2)
abbrev fZ:V:=.agg [.sl 1 [] .nl,.sl 1 [] .nl,.int .u64 0,.int .i64 0]
abbrev gF(i:Nat):V:=.agg [.gsl 5 i 1 0 i,.gsl 6 i 1 0 i,.int .u64 0,.int .i64 0]
def bS(S:List (Bool ×Sl)):List V:=S.map fun q=>.bool q.1
def sS(S:List (Bool ×Sl)):List V:=S.map fun q=>sV q.2
theorem Zle(S:List (Bool ×Sl)):Zv (bS S)=true:=by unfold bS;rw[YR];simp
theorem ZkK(S:List (Bool ×Sl)):Zv (sS S)=true:=by unfold sS;rw[YR];simp
theorem ZfR{vp:VP}{h h1:Zg}{fr:Fr}(ho:Qu h h1=false):X1 vp h fr h1=h1:=by simp[X1,ho]
theorem ZfP(m:Zb)(p:Int): ∀(r:List Zs) (i:Nat) (P:List (Bool ×Sl)),(X2 m p r i P).1=none→(X2 m p r i P).2.2.length=r.length∧(X2 m p r i P).2.1.length=P.length
 |[],_,_,_=>⟨rfl,rfl⟩
 |x::r,i,P,h=>by
  simp only[X2]at h⊢
  split at h
  ·rename_i c
   rw[if_pos c]
   have:=ZfP m p r (i+1) P h
   simp[this]
  ·rename_i c
   rw[if_neg c]
   have hl:=J3 m p i x P (P.getD i (false,0)).2
   generalize Vr m p i x P (P.getD i (false,0)).2=q at h hl⊢
   obtain⟨o,P'⟩:=q
   cases o with
   |some w=>simp at h
   |none=>
    simp only at h hl⊢
    have:=ZfP m p r (i+1) P' h
    simp[this,hl]
section
variable (m : Zb) (hm : Clo m) (hsm : Z2 m) (hc : Yr m = none) (p : Int) (N : GL Zs) (hcl : Ze (GL.v 6 Zs.v N) = true) (n : Nat) (hn : N.l.length = n) (hn2 : n ≤ 32) (hg : ∀ i x, Zh N.l i = some x → JD m n i x) (e0 : List V)
include hm hsm hc hcl hn hn2 hg in
set_option maxHeartbeats 4000000 in
theorem Zpq: ∀(r:List Zs) (i:Nat) (P S:List (Bool ×Sl)),N.l.drop i=r→i≤n→P.length=n+1→S.length=i→∃fr hh,(orc vp).loop 0 [3,6,8,9,50,51] JX [(3,.ptr 0 1 0 0),(6,.ptr 1 1 0 0),(8,.ptr 2 1 0 0),(9,.ptr 4 1 0 0),(50,.int .i64 n),(51,.int .i64 i)] [.arr e0,.arr [fZ],.arr [wkV m p (GL.v 6 Zs.v N) (.gsl 3 (n+1) 2 0 (n+1))],.arr (P.map plV),.arr [gF i],.arr (bS S),.arr (sS S)]=
 some (match X2 m p r i P with
  |(none,P',S')=>(.brk 0,(3,.ptr 0 1 0 0)::(6,.ptr 1 1 0 0)::(8,.ptr 2 1 0 0)::(9,.ptr 4 1 0 0)::fr,[.arr e0,.arr [fZ],.arr [wkV m p (GL.v 6 Zs.v N) (.gsl 3 (n+1) 2 0 (n+1))],.arr (P'.map plV),.arr [gF n],.arr (bS (S++S')),.arr (sS (S++S'))])
  |(some w,_)=>(.ret,[(6,.ptr 1 1 0 0),(7,.iface 149 (wrO (some w)))],.arr e0::.arr [fZ]::hh)):=by
 intro r
 induction r with
 |nil=>
  intro i P S hd hi hP hS
  have hin:i=n:=by
   have:N.l.length≤i:=List.drop_eq_nil_iff.1 hd
   omega
  subst hin
  refine⟨[(50,.int .i64 i),(51,.int .i64 i),(52,.bool false)],[],?_⟩
  rw[V6]
  simp -implicitDefEqProofs [X0,X2]
 |cons x r ih=>
  intro i P S hd hi hP hS
  have hi2:i<n:=by
   have:i<N.l.length:=by
    rcases Nat.lt_or_ge i N.l.length with h|h
    ·exact h
    ·rw[List.drop_eq_nil_of_le h]at hd;simp at hd
   omega
  have hlt:(i:Int)<n:=by omega
  have hx:N.l[i]? =some x:=by
   have:=congrArg (fun q=>q[0]?) hd
   simpa using this
  have hx':Zh N.l (i:Int)=some x:=by simp[Zh,hx]
  have hd':N.l.drop (i+1)=r:=by
   have:=congrArg (List.drop 1) hd
   simpa using this
  obtain⟨i2,hi3⟩: ∃i2,i+1=i2:=⟨_,rfl⟩
  have w1:IntKind.i64.wrap ((i:Int)+1)=(i2:Int):=by rw[ZK (by omega) (by omega)];omega
  have hxc:=Xc hcl hx'
  have hgx:=hg _ _ hx'
  have hia:=iaG (B:=3) (z:=2) (ep:=n+1) (i:=(i:Int)) (by omega) (by omega)
  rw[Int.toNat_natCast]at hia
  have c0:YG (P.map plV) (n+1)=some (P.map plV):=Yt (by simp[hP])
  have g0:(P.map plV)[i]? =some (plV (P.getD i (false,0))):=by
   have:i<P.length:=by omega
   rw[List.getElem?_map,List.getD_eq_getElem?_getD,List.getElem?_eq_getElem this];rfl
  generalize hpp:P.getD i (false,0)=q at g0
  obtain⟨re,s⟩:=q
  have hnode:=fun e4 e5 e6 kv=>Zjh (β:=Ex ×Fr ×Zg) m hm hsm hc p N n e0 [fZ] e4 e5 e6 i x hx' hxc hgx P hP re s hpp hi2 kv
  have eb:bS (S++[(re,s)])=bS S++[.bool re]:=by simp[bS]
  have es:sS (S++[(re,s)])=sS S++[sV s]:=by simp[sS]
  have lb:(bS S).length=i:=by simp[bS,hS]
  have ls:(sS S).length=i:=by simp[sS,hS]
  have ab: ∀a b c d e f,X3 0 [a,b,c,d,e,.arr (bS S),f] 1 1 (.gsl 5 i 1 0 i) [.bool re]=some (.gsl 5 i2 1 0 i2,[a,b,c,d,e,.arr (bS S++[.bool re]),f]):=fun a b c d e f=>by
   rw[KY (es:=bS S) (by simp) lb (by omega) rfl (by unfold YC;simp;omega)]
   simp[hi3]
  have as_: ∀a b c d e f,X3 0 [a,b,c,d,e,f,.arr (sS S)] 1 8 (.gsl 6 i 1 0 i) [sV s]=some (.gsl 6 i2 1 0 i2,[a,b,c,d,e,f,.arr (sS S++[sV s])]):=fun a b c d e f=>by
   rw[KY (es:=sS S) (by simp) ls (by omega) rfl (by unfold YC;simp;omega)]
   simp[hi3]
  have hs1:=fun fr=>slK fr 1 63 (.bool re) rfl rfl
  have hs2:=fun fr=>slK fr 1 75 (sV s) rfl rfl
  have hz0: ∀fr,Zf fr (.build [.sl 1 [] .nl,.sl 1 [] .nl,.int .u64 0,.int .i64 0] [])=some fZ:=fun _=>rfl
  have lz: ∀(h:Zg) v,Wl h 1 (.sl 1 [v] .ce)=some [v]:=fun _ _=>rfl
  have ih:=fun P hP=>ih i2 P (S++[(re,s)]) (by rw[←hi3];exact hd') (by omega) hP (by simp[hS,hi3])
  simp only[eb,es]at ih
  simp only[X2,hpp]
  cases re with
  |false=>
   obtain⟨fr,hh,ih⟩:=ih P hP
   rw[hi3]at*
   refine⟨fr,hh,?_⟩
   have e2: ∀T:List (Bool ×Sl),bS (S++(false,s)::T)=bS (S++[(false,s)]++T)∧sS (S++(false,s)::T)=sS (S++[(false,s)]++T):=fun T=>by simp
   generalize X2 m p r i2 P=q at ih⊢
   obtain⟨o,P2,S2⟩:=q
   have hb:=(e2 S2).1
   have hs:=(e2 S2).2
   rw[V6]
   generalize bS S=B at*
   generalize sS S=D at*
   cases o with
   |none=>
    simp only[hb,hs]at ih⊢
    simp -implicitDefEqProofs [X0,hlt,hia,c0,g0,plV,QU,hs1,hs2,lz,ab,as_,w1,ih,Xd,Uk,Tx.E,Tx.D,Tx.mv,Tx.nk,Tx.fa,Tx.ld,Tx.ia,Tx.it,Tx.st,Xg,ZT]
   |some w=>
    simp only at ih⊢
    simp -implicitDefEqProofs [X0,hlt,hia,c0,g0,plV,QU,hs1,hs2,lz,ab,as_,w1,ih,Xd,Uk,Tx.E,Tx.D,Tx.mv,Tx.nk,Tx.fa,Tx.ld,Tx.ia,Tx.it,Tx.st,Xg,ZT]
  |true=>
   have hnl:=J3 m p i x P s
   have ht: ¬true=false:=by decide
   simp only[if_neg ht]
   generalize Vr m p (i:Int) x P s=q at hnode hnl⊢
   obtain⟨o,P'⟩:=q
   simp only at hnode hnl
   cases o with
   |some w=>
    have hwo:wrO (some w)=.eptr (wrV w.1 w.2.1 w.2.2.1 w.2.2.2) 0 .perm:=rfl
    refine⟨[],[.arr [wkV m p (GL.v 6 Zs.v N) (.gsl 3 (n+1) 2 0 (n+1))],.arr (P'.map plV),.arr [gF i2],.arr (bS S++[.bool true]),.arr (sS S++[sV s])],?_⟩
    rw[hwo]at hnode
    rw[V6]
    simp only[hwo]
    generalize bS S=B at*
    generalize sS S=D at*
    simp -implicitDefEqProofs [X0,hlt,hia,c0,g0,plV,QU,hs1,hs2,hz0,lz,ab,as_,w1,hnode,Xd,Uk,Tx.E,Tx.D,Tx.mv,Tx.nk,Tx.fa,Tx.ld,Tx.ia,Tx.it,Tx.st,Xg,ZT]
   |none=>
    have hwo:wrO none=.nilp:=rfl
    rw[hwo]at hnode
    obtain⟨fr,hh,ih⟩:=ih P' (by rw[hnl,hP])
    rw[hi3]at*
    refine⟨fr,hh,?_⟩
    have e2: ∀T:List (Bool ×Sl),bS (S++(true,s)::T)=bS (S++[(true,s)]++T)∧sS (S++(true,s)::T)=sS (S++[(true,s)]++T):=fun T=>by simp
    simp only
    generalize X2 m p r i2 P'=q at ih⊢
    obtain⟨o,P2,S2⟩:=q
    have hb:=(e2 S2).1
    have hs:=(e2 S2).2
    rw[V6]
    generalize bS S=B at*
    generalize sS S=D at*
    cases o with
    |none=>
     simp only[hb,hs]at ih⊢
     simp -implicitDefEqProofs [X0,hlt,hia,c0,g0,plV,QU,hs1,hs2,lz,ab,as_,w1,hnode,ih,Xd,Uk,Tx.E,Tx.D,Tx.mv,Tx.nk,Tx.fa,Tx.ld,Tx.ia,Tx.it,Tx.st,Xg,ZT]
    |some w=>
     simp only at ih⊢
     simp -implicitDefEqProofs [X0,hlt,hia,c0,g0,plV,QU,hs1,hs2,lz,ab,as_,w1,hnode,ih,Xd,Uk,Tx.E,Tx.D,Tx.mv,Tx.nk,Tx.fa,Tx.ld,Tx.ia,Tx.it,Tx.st,Xg,ZT]
include hm hsm hc hcl hn hn2 hg in
set_option maxHeartbeats 4000000 in
theorem Znt(x:Zs)(r:List Zs)(P:List (Bool ×Sl))(hd:N.l=x::r)(hP:P.length=n+1): ∃fr hh,(orc vp).loop 0 [3,6,8,9,50,51] JX [(3,.ptr 0 1 0 0),(6,.ptr 1 1 0 0),(8,.ptr 2 1 0 0),(9,.ptr 4 1 0 0),(50,.int .i64 n),(51,.int .i64 0)] [.arr e0,.arr [fZ],.arr [wkV m p (GL.v 6 Zs.v N) (.gsl 3 (n+1) 2 0 (n+1))],.arr (P.map plV),.arr [fZ]]=
 some (match X2 m p N.l 0 P with
  |(none,P',S')=>(.brk 0,(3,.ptr 0 1 0 0)::(6,.ptr 1 1 0 0)::(8,.ptr 2 1 0 0)::(9,.ptr 4 1 0 0)::fr,[.arr e0,.arr [fZ],.arr [wkV m p (GL.v 6 Zs.v N) (.gsl 3 (n+1) 2 0 (n+1))],.arr (P'.map plV),.arr [gF n],.arr (bS S'),.arr (sS S')])
  |(some w,_)=>(.ret,[(6,.ptr 1 1 0 0),(7,.iface 149 (wrO (some w)))],.arr e0::.arr [fZ]::hh)):=by
 have hcr:X2 m p N.l 0 P=X2 m p (x::r) 0 P:=by rw[hd]
 rw[hcr]
 have hi2:0<n:=by rw[←hn,hd];simp
 have hlt:(0:Int)<n:=by omega
 have hx':Zh N.l (0:Int)=some x:=by rw[hd];rfl
 have hd':N.l.drop (0+1)=r:=by rw[hd];rfl
 obtain⟨i2,hi3⟩: ∃i2,0+1=i2:=⟨_,rfl⟩
 have w1:IntKind.i64.wrap 1=(i2:Int):=by rw[ZK (by omega) (by omega)];omega
 have hn0: ¬n=0:=by omega
 have hxc:=Xc hcl hx'
 have hgx:=hg _ _ hx'
 have hia:=iaG (B:=3) (z:=2) (ep:=n+1) (i:=0) (by omega) (by omega)
 rw[Int.toNat_zero]at hia
 have c0:YG (P.map plV) (n+1)=some (P.map plV):=Yt (by simp[hP])
 have g0:(P.map plV)[0]? =some (plV (P.getD 0 (false,0))):=by
  have:0<P.length:=by omega
  rw[List.getElem?_map,List.getD_eq_getElem?_getD,List.getElem?_eq_getElem this];rfl
 generalize hpp:P.getD 0 (false,0)=q at g0
 obtain⟨re,s⟩:=q
 have hnode:=fun e4 e5 e6 kv=>Zjh (β:=Ex ×Fr ×Zg) m hm hsm hc p N n e0 [fZ] e4 e5 e6 0 x hx' hxc hgx P hP re s hpp hi2 kv
 have h1:i2=1:=by omega
 have eb:bS [(re,s)]=[.bool re]:=rfl
 have es:sS [(re,s)]=[sV s]:=rfl
 have ab: ∀a b c d e,X3 0 [a,b,c,d,e] 1 1 (.sl 1 [] .nl) [.bool re]=some (.gsl 5 i2 1 0 i2,[a,b,c,d,e,.arr [.bool re]]):=fun a b c d e=>by
  subst h1;simp[X3,Qh,YC]
 have as_: ∀a b c d e f,X3 0 [a,b,c,d,e,f] 1 8 (.sl 1 [] .nl) [sV s]=some (.gsl 6 i2 1 0 i2,[a,b,c,d,e,f,.arr [sV s]]):=fun a b c d e f=>by
  subst h1;simp[X3,Qh,YC]
 have hgl: ∀fr Q B D,X1 vp [.arr e0,.arr [fZ],.arr [wkV m p (GL.v 6 Zs.v N) (.gsl 3 (n+1) 2 0 (n+1))],.arr (P.map plV),.arr [fZ]] fr [.arr e0,.arr [fZ],.arr [wkV m p (GL.v 6 Zs.v N) (.gsl 3 (n+1) 2 0 (n+1))],.arr Q,.arr [gF i2],B,D]=[.arr e0,.arr [fZ],.arr [wkV m p (GL.v 6 Zs.v N) (.gsl 3 (n+1) 2 0 (n+1))],.arr Q,.arr [gF i2],B,D]:=fun fr Q B D=>ZfR (by
  have:(Je (.arr [gF i2]) (.arr [fZ])||Vj 5 (.arr [gF i2]))=false:=rfl
  simp only[ZjR,Zfg,List.length_cons,List.length_nil,this];simp)
 have hs1:=fun fr=>slK fr 1 63 (.bool re) rfl rfl
 have hs2:=fun fr=>slK fr 1 75 (sV s) rfl rfl
 have hz0: ∀fr,Zf fr (.build [.sl 1 [] .nl,.sl 1 [] .nl,.int .u64 0,.int .i64 0] [])=some fZ:=fun _=>rfl
 have lz: ∀(h:Zg) v,Wl h 1 (.sl 1 [v] .ce)=some [v]:=fun _ _=>rfl
 have ih:=fun P hP=>Zpq m hm hsm hc p N hcl n hn hn2 hg e0 r i2 P [(re,s)] (by rw[←hi3];exact hd') (by omega) hP (by simp[h1])
 simp only[eb,es]at ih
 have hz1:((0:Nat):Int)=0:=rfl
 rw[hz1]at hnode
 simp only[X2,hpp,hz1]
 cases re with
 |false=>
  obtain⟨fr,hh,ih⟩:=ih P hP
  rw[hi3]at*
  refine⟨fr,hh,?_⟩
  have e2: ∀T:List (Bool ×Sl),bS ((false,s)::T)=bS ([(false,s)]++T)∧sS ((false,s)::T)=sS ([(false,s)]++T):=fun T=>⟨rfl,rfl⟩
  generalize X2 m p r i2 P=q at ih⊢
  obtain⟨o,P2,S2⟩:=q
  have hb:=(e2 S2).1
  have hs:=(e2 S2).2
  rw[V6]
  cases o with
  |none=>
   simp only[hb,hs]at ih⊢
   simp -implicitDefEqProofs [X0,hlt,hi2,hn0,hia,c0,g0,plV,QU,hs1,hs2,lz,ab,as_,hgl,w1,ih,Xd,Uk,Tx.E,Tx.D,Tx.mv,Tx.nk,Tx.fa,Tx.ld,Tx.ia,Tx.it,Tx.st,Xg,ZT]
  |some w=>
   simp only at ih⊢
   simp -implicitDefEqProofs [X0,hlt,hi2,hn0,hia,c0,g0,plV,QU,hs1,hs2,lz,ab,as_,hgl,w1,ih,Xd,Uk,Tx.E,Tx.D,Tx.mv,Tx.nk,Tx.fa,Tx.ld,Tx.ia,Tx.it,Tx.st,Xg,ZT]
 |true=>
  have hnl:=J3 m p 0 x P s
  have ht: ¬true=false:=by decide
  simp only[if_neg ht]
  generalize Vr m p (0:Int) x P s=q at hnode hnl⊢
  obtain⟨o,P'⟩:=q
  simp only at hnode hnl
  cases o with
  |some w=>
   have hwo:wrO (some w)=.eptr (wrV w.1 w.2.1 w.2.2.1 w.2.2.2) 0 .perm:=rfl
   refine⟨[],[.arr [wkV m p (GL.v 6 Zs.v N) (.gsl 3 (n+1) 2 0 (n+1))],.arr (P'.map plV),.arr [gF i2],.arr [.bool true],.arr [sV s]],?_⟩
   rw[hwo]at hnode
   rw[V6]
   simp only[hwo]
   simp -implicitDefEqProofs [X0,hlt,hi2,hn0,hia,c0,g0,plV,QU,hs1,hs2,hz0,lz,ab,as_,hgl,w1,hnode,Xd,Uk,Tx.E,Tx.D,Tx.mv,Tx.nk,Tx.fa,Tx.ld,Tx.ia,Tx.it,Tx.st,Xg,ZT]
  |none=>
   have hwo:wrO none=.nilp:=rfl
   rw[hwo]at hnode
   obtain⟨fr,hh,ih⟩:=ih P' (by rw[hnl,hP])
   rw[hi3]at*
   refine⟨fr,hh,?_⟩
   have e2: ∀T:List (Bool ×Sl),bS ((true,s)::T)=bS ([(true,s)]++T)∧sS ((true,s)::T)=sS ([(true,s)]++T):=fun T=>⟨rfl,rfl⟩
   simp only
   generalize X2 m p r i2 P'=q at ih⊢
   obtain⟨o,P2,S2⟩:=q
   have hb:=(e2 S2).1
   have hs:=(e2 S2).2
   rw[V6]
   cases o with
   |none=>
    simp only[hb,hs]at ih⊢
    simp -implicitDefEqProofs [X0,hlt,hi2,hn0,hia,c0,g0,plV,QU,hs1,hs2,lz,ab,as_,hgl,w1,hnode,ih,Xd,Uk,Tx.E,Tx.D,Tx.mv,Tx.nk,Tx.fa,Tx.ld,Tx.ia,Tx.it,Tx.st,Xg,ZT]
   |some w=>
    simp only at ih⊢
    simp -implicitDefEqProofs [X0,hlt,hi2,hn0,hia,c0,g0,plV,QU,hs1,hs2,lz,ab,as_,hgl,w1,hnode,ih,Xd,Uk,Tx.E,Tx.D,Tx.mv,Tx.nk,Tx.fa,Tx.ld,Tx.ia,Tx.it,Tx.st,Xg,ZT]
end
end Go.VE.Un
namespace Go.VE.Un
open Go.VE
def ndP(m:Zb)(eg:Bool):GL Zs:=if eg=true then m.Egress else m.Ingress
def pP(eg:Bool):Int:=if eg=true then 8 else 7
def tg(n:Nat):Tag:=if n=0 then .nl else .perm
def ZmB(m:Zb)(n:Nat)(nd:List Zs)(P S:List (Bool ×Sl)):V:=.agg [.sl 1 (bS S) (tg n),.sl 1 (sS S) (tg n),sV (P.getD n (false,0)).2,.int .i64 (Zau m nd)]
def Zqo(m:Zb)(eg:Bool)(s:Sl):V:=
 match X2 m (pP eg) (ndP m eg).l 0 (Yk (ndP m eg).l.length s)with
 |(some w,_)=>.tup [fZ,.iface 149 (wrO (some w))]
 |(none,P,S)=>.tup [ZmB m (ndP m eg).l.length (ndP m eg).l P S,.nili]
section
variable (m : Zb) (p q : Int) (nd w : V)
theorem Zp8:stc (wkV m p nd w) 1 18 (.int .i64 q)=some (wkV m q nd w):=by
 unfold wkV;rw[W9 (by simp[Zb.cs]) rfl];rfl
theorem Zpa(x:V)(hx:Vv x=true):stc (wkV m p nd w) 1 19 x=some (wkV m p x w):=by
 unfold wkV;rw[W9 (by simp[Zb.cs]) hx];rfl
theorem Zpb(x:V)(hx:Vv x=true):stc (wkV m p nd w) 1 20 x=some (wkV m p nd x):=by
 unfold wkV;rw[W9 (by simp[Zb.cs]) hx];rfl
end
theorem ZnW(m:Zb)(N:GL Zs)(fr:Fr)(a b:Nat)(e1:lk fr a=m.v)(e2:lk fr b=GL.v 6 Zs.v N):
 Zf fr (.build [.str [],.sl 6 [] .nl,.sl 3 [] .nl,.sl 2 [] .nl,.sl 5 [] .nl,.sl 3 [] .nl,.sl 7 [] .nl,.sl 6 [] .nl,.sl 6 [] .nl,.sl 1 [] .nl,.sl 2 [] .nl,.sl 2 [] .nl,.sl 3 [] .nl,.sl 2 [] .nl,.sl 4 [] .nl,.int .i64 0,.int .i64 0,.int .i64 0,.int .i64 0,.sl 6 [] .nl,.sl 2 [] .nl] [(0,18,.t a),(18,1,.c (.int .i64 7)),(19,1,.t b)])=some (wkV m 7 (GL.v 6 Zs.v N) (.sl 2 [] .nl)):=by
 simp only[Zf,List.map,List.all,opd,e1,e2]
 rfl
theorem Zqg(fr:Fr)(H:Zg):(orc vp).loop 0 [3,6,8,9,50,51] JX [(3,.ptr 0 1 0 0),(6,.ptr 1 1 0 0),(8,.ptr 2 1 0 0),(9,.ptr 4 1 0 0),(50,.int .i64 0),(51,.int .i64 0)] H=
 some (.brk 0,[(3,.ptr 0 1 0 0),(6,.ptr 1 1 0 0),(8,.ptr 2 1 0 0),(9,.ptr 4 1 0 0),(50,.int .i64 0),(51,.int .i64 0),(52,.bool false)],H):=by
 rw[V6]
 simp -implicitDefEqProofs [X0]
theorem ZjO{m:Zb}(hm:Clo m):Ze (GL.v 6 Zs.v m.Egress)=true:=by
 simp only[Clo,Zb.closed,Bool.and_eq_true]at hm;simp[hm]
theorem ZsY(m:Zb)(p:Int)(P:List (Bool ×Sl)):X2 m p [] 0 P=(none,P,[]):=rfl
theorem Zqn(m:Zb)(hm:Clo m)(hsm:Z2 m)(hc:Yr m=none)(p:Int)(N:GL Zs)(hcl:Ze (GL.v 6 Zs.v N)=true)(hok:(Wj m N.l).2=0)(s:Sl)(n:Nat)(hn:N.l.length=n)(P:List (Bool ×Sl))(hP:P.length=n+1): ∃fr hh B,(orc vp).loop 0 [3,6,8,9,50,51] JX [(3,.ptr 0 1 0 0),(6,.ptr 1 1 0 0),(8,.ptr 2 1 0 0),(9,.ptr 4 1 0 0),(50,.int .i64 n),(51,.int .i64 0)] [.arr [m.v],.arr [fZ],.arr [wkV m p (GL.v 6 Zs.v N) (.gsl 3 (n+1) 2 0 (n+1))],.arr (P.map plV),.arr [fZ]]=
 some (match X2 m p N.l 0 P with
  |(none,P',S')=>(.brk 0,(3,.ptr 0 1 0 0)::(6,.ptr 1 1 0 0)::(8,.ptr 2 1 0 0)::(9,.ptr 4 1 0 0)::fr,.arr [m.v]::.arr [fZ]::.arr [wkV m p (GL.v 6 Zs.v N) (.gsl 3 (n+1) 2 0 (n+1))]::.arr (P'.map plV)::.arr [if n=0 then fZ else gF n]::(if n=0 then[]else[.arr (bS S'),.arr (sS S')]))
  |(some w,_)=>(.ret,[(6,.ptr 1 1 0 0),(7,.iface 149 (wrO (some w)))],.arr [m.v]::.arr [fZ]::hh))∧B=():=by
 obtain⟨hn2,hg⟩:=ZaQ hok
 rw[hn]at hn2 hg
 match hN:N.l with
 |[]=>
  have:n=0:=by rw[←hn,hN];rfl
  subst this
  refine⟨[(50,.int .i64 0),(51,.int .i64 0),(52,.bool false)],[],(),?_,rfl⟩
  have:=Zqg [] [.arr [m.v],.arr [fZ],.arr [wkV m p (GL.v 6 Zs.v N) (.gsl 3 (0+1) 2 0 (0+1))],.arr (P.map plV),.arr [fZ]]
  rw[ZsY]
  exact this
 |x::r=>
  have hne:n≠0:=by rw[←hn,hN];simp
  obtain⟨fr,hh,h⟩:=Znt m hm hsm hc p N hcl n hn hn2 hg [m.v] x r P hN hP
  rw[hN]at h
  refine⟨fr,hh,(),?_,rfl⟩
  rw[h]
  first
   |(simp only[if_neg hne];done)
   |(simp only[if_neg hne];rfl)
def ZhD(m:Zb)(eg:Bool)(s:Sl):V:=if Yr m=none then Zqo m eg s else .tup [fZ,.iface 149 (.eptr (wrV 0 0 0 1) 0 .perm)]
set_option maxHeartbeats 4000000 in
theorem ZaB(m:Zb)(hm:Clo m)(hsm:Z2 m)(eg:Bool)(s:Sl):Zc vp 620 [m.v,.bool eg,sV s]=some (ZhD m eg s):=by
 have hck:=ZeP m hm hsm
 have hz0: ∀fr,Zf fr (.build [.sl 1 [] .nl,.sl 1 [] .nl,.int .u64 0,.int .i64 0] [])=some fZ:=fun _=>rfl
 unfold ZhD
 cases hci:Yr m with
 |some t=>
  obtain⟨a,b,c⟩:=t
  rw[hci]at hck
  have hwb: ∀fr,Zf fr (.build [.int .i64 0,.int .i64 0,.int .i64 0,.int .i64 0] [(3,1,.c (.int .i64 1))])=some (wrV 0 0 0 1):=fun _=>rfl
  have hwo:okV (wrV 0 0 0 1)=true:=rfl
  rw[Za ZlK]
  simp -implicitDefEqProofs [f620,b620,hck,hz0,hwb,hwo]
 |none=>
  rw[hci]at hck
  have hok:(Wj m (ndP m eg).l).2=0:=by
   cases eg
   ·exact Zld hci
   ·exact ZlT hci
  have hcl:Ze (GL.v 6 Zs.v (ndP m eg))=true:=by
   cases eg
   ·exact ZgZ hm
   ·exact ZjO hm
  obtain⟨n,hn⟩: ∃n,(ndP m eg).l.length=n:=⟨_,rfl⟩
  have hgd:=ZaQ hok
  have hst:=Zmy m hci (ndP m eg) hcl hgd.1 hgd.2
  have hn2:n≤32:=hn▸hgd.1
  obtain⟨fr,hh,_,hl,_⟩:=Zqn m hm hsm hci (pP eg) (ndP m eg) hcl hok s n hn (Yk n s) (by simp[Yk])
  have w1:IntKind.i64.wrap ((n:Int)+1)=(n:Int)+1:=ZK (by omega) (by omega)
  have hbw:=fun fr a=>ZnW m m.Ingress ((21,GL.v 6 Zs.v m.Ingress)::(20,a)::(19,m.v)::fr) 19 21 (by simp) (by simp)
  have s18:=Zp8 m 7 8 (GL.v 6 Zs.v m.Ingress) (.sl 2 [] .nl)
  have s19:=Zpa m 8 (GL.v 6 Zs.v m.Ingress) (.sl 2 [] .nl) (GL.v 6 Zs.v m.Egress) (by simp)
  have s20:=Zpb m (pP eg) (GL.v 6 Zs.v (ndP m eg)) (.sl 2 [] .nl) (.gsl 3 (n+1) 2 0 (n+1)) rfl
  have e2:List.replicate (n+1) (V.agg [.bool false,.int .u64 0])=(List.replicate (n+1) (false,(0:Sl))).map plV:=by rw[List.map_replicate];rfl
  have hmk: ∀a b c,UW [a,b,c] (.agg [.bool false,.int .u64 0]) 16 (.int .i64 ((n:Int)+1)) (.int .i64 ((n:Int)+1))=some (.gsl 3 (n+1) 2 0 (n+1),[a,b,c,.arr ((List.replicate (n+1) (false,(0:Sl))).map plV)]):=fun a b c=>by
   unfold UW
   simp only
   have e3:((n:Int)+1).toNat=n+1:=by omega
   rw[if_pos (by unfold YC;omega),e3,e2];rfl
  have eP:atP (List.replicate (n+1) (false,(0:Sl))) (0:Int).toNat s=Yk n s:=by
   unfold atP Js Yk;simp[List.replicate_succ]
  have em:=fun b0 b1 kv=>Zao (β:=V) m (pP eg) (GL.v 6 Zs.v (ndP m eg)) n b0 b1 [] (List.replicate (n+1) (false,(0:Sl))) (by simp) 0 (by omega) (by omega) s kv
  rw[eP]at em
  have hin:=iaG (B:=3) (z:=2) (ep:=n+1) (i:=(n:Int)) (by omega) (by omega)
  rw[Int.toNat_natCast]at hin
  have hS:=ZfP m (pP eg) (ndP m eg).l 0 (Yk n s)
  have hA:Zqo m eg s=(match X2 m (pP eg) (ndP m eg).l 0 (Yk n s)with
   |(some w,_)=>.tup [fZ,.iface 149 (wrO (some w))]
   |(none,P,S)=>.tup [ZmB m n (ndP m eg).l P S,.nili]):=by unfold Zqo;rw[hn]
  rw[if_pos rfl,hA]
  generalize X2 m (pP eg) (ndP m eg).l 0 (Yk n s)=q at hl hS⊢
  obtain⟨o,P,S⟩:=q
  cases o with
  |some w=>
   obtain⟨a,b,c,d⟩:=w
   have hwo:wrO (some (a,b,c,d))=.eptr (wrV a b c d) 0 .perm:=rfl
   simp only[hwo]at hl⊢
   have hcw:Ze (.eptr (wrV a b c d) 0 .perm)=true:=by simp[Ze]
   rw[Za ZlK]
   cases eg with
   |false=>
    simp only[ndP,pP,Bool.false_eq_true,if_false]at hn hst hl s20 em hcl
    generalize (List.replicate (n+1) (false,(0:Sl))).map plV=R at*
    simp -implicitDefEqProofs [f620,b620,hck,hbw,QU,s20,hn,w1,hmk,em,hl,hcw]
   |true=>
    simp only[ndP,pP,if_true]at hn hst hl s20 em hcl
    generalize (List.replicate (n+1) (false,(0:Sl))).map plV=R at*
    simp -implicitDefEqProofs [f620,b620,hck,hbw,QU,s18,s19,s20,hcl,hn,w1,hmk,em,hl,hcw,Xd,Uk,Zhh,UE,Tx.E,Tx.D,Tx.mv,Tx.nk,Tx.fa,Tx.ld,Tx.st,Tx.i0,Tx.ln,Tx.ia,Tx.la,Tx.ct,Xg,ZT]
  |none=>
   have hl2:=(hS rfl).2
   simp only at hl2
   have c1:YG (P.map plV) (n+1)=some (P.map plV):=Yt (by simp[hl2,Yk])
   have g1:(P.map plV)[n]? =some (plV (P.getD n (false,0))):=by
    have:n<P.length:=by rw[hl2];simp[Yk]
    rw[List.getElem?_map,List.getD_eq_getElem?_getD,List.getElem?_eq_getElem this];rfl
   have hSl:=(hS rfl).1
   simp only at hSl
   rw[hn]at hSl
   have hF:ZmB m n (ndP m eg).l P S=.agg [.sl 1 (bS S) (tg n),.sl 1 (sS S) (tg n),sV (P.getD n (false,0)).2,.int .i64 (Zau m (ndP m eg).l)]:=rfl
   generalize P.getD n (false,0)=pl at g1 hF
   obtain⟨pr,ps⟩:=pl
   simp only[hF]
   simp only at hl
   have cb:=Zle S
   have cs:=ZkK S
   rw[Za ZlK]
   by_cases h0:n=0
   ·rw[if_pos h0,if_pos h0]at hl
    have hS0:S=[]:=List.length_eq_zero_iff.1 (by omega)
    have htg:tg n=.nl:=if_pos h0
    have hb0:bS S=[]:=by rw[hS0];rfl
    have hs0:sS S=[]:=by rw[hS0];rfl
    rw[htg,hb0,hs0]
    cases eg with
    |false=>
     simp only[ndP,pP,Bool.false_eq_true,if_false]at hn hst hl s20 em hcl⊢
     generalize (List.replicate (n+1) (false,(0:Sl))).map plV=R at*
     simp -implicitDefEqProofs [f620,b620,hck,hbw,QU,s20,hn,w1,hmk,em,hl,hin,c1,g1,plV,hst,KZ]
    |true=>
     simp only[ndP,pP,if_true]at hn hst hl s20 em hcl⊢
     generalize (List.replicate (n+1) (false,(0:Sl))).map plV=R at*
     simp -implicitDefEqProofs [f620,b620,hck,hbw,QU,s18,s19,s20,hcl,hn,w1,hmk,em,hl,hin,c1,g1,plV,hst,KZ,Xd,Uk,Zhh,UE,Tx.E,Tx.D,Tx.mv,Tx.nk,Tx.fa,Tx.ld,Tx.st,Tx.i0,Tx.ln,Tx.ia,Tx.la,Tx.ct,Xg,ZT]
   ·rw[if_neg h0,if_neg h0]at hl
    have htg:tg n=.perm:=if_neg h0
    rw[htg]
    have k1:YG (bS S) n=some (bS S):=Yt (by simp[bS,hSl])
    have k2:YG (sS S) n=some (sS S):=Yt (by simp[sS,hSl])
    have k3:ZaK n 0 n (bS S)=some (bS S):=Qy (by simp[bS,hSl])
    have k4:ZaK n 0 n (sS S)=some (sS S):=Qy (by simp[sS,hSl])
    cases eg with
    |false=>
     simp only[ndP,pP,Bool.false_eq_true,if_false]at hn hst hl s20 em hcl⊢
     generalize (List.replicate (n+1) (false,(0:Sl))).map plV=R at*
     simp -implicitDefEqProofs [f620,b620,hck,hbw,QU,s20,hn,w1,hmk,em,hl,hin,c1,g1,plV,hst,KZ,k1,k2,k3,k4,cb,cs]
    |true=>
     simp only[ndP,pP,if_true]at hn hst hl s20 em hcl⊢
     generalize (List.replicate (n+1) (false,(0:Sl))).map plV=R at*
     simp -implicitDefEqProofs [f620,b620,hck,hbw,QU,s18,s19,s20,hcl,hn,w1,hmk,em,hl,hin,c1,g1,plV,hst,KZ,k1,k2,k3,k4,cb,cs,Xd,Uk,Zhh,UE,Tx.E,Tx.D,Tx.mv,Tx.nk,Tx.fa,Tx.ld,Tx.st,Tx.i0,Tx.ln,Tx.ia,Tx.la,Tx.ct,Xg,ZT]
end Go.VE.Un
namespace Go.VE.Un
open Go.VE
theorem Znk(m:Zb)(hm:Clo m)(hT:Zdn m):Zc vp 715 [m.v]=some (.bool (Zac m)):=by
 have hc:=Zmw m hm hT
 have a1:=m.Headers.le;have a2:=m.Insts.le;have a3:=m.States.le;have a4:=m.Actions.le
 have a5:=m.Tables.le;have a6:=m.Ingress.le;have a7:=m.Egress.le
 have w1:IntKind.i64.wrap ((m.Headers.l.length:Int)+m.Insts.l.length)=(m.Headers.l.length:Int)+m.Insts.l.length:=ZK (by omega) (by omega)
 have w2:IntKind.i64.wrap ((m.Headers.l.length:Int)+m.Insts.l.length+m.States.l.length)=(m.Headers.l.length:Int)+m.Insts.l.length+m.States.l.length:=ZK (by omega) (by omega)
 have w3:IntKind.i64.wrap ((m.Headers.l.length:Int)+m.Insts.l.length+m.States.l.length+m.Actions.l.length)=(m.Headers.l.length:Int)+m.Insts.l.length+m.States.l.length+m.Actions.l.length:=ZK (by omega) (by omega)
 have w4:IntKind.i64.wrap ((m.Headers.l.length:Int)+m.Insts.l.length+m.States.l.length+m.Actions.l.length+m.Tables.l.length)=(m.Headers.l.length:Int)+m.Insts.l.length+m.States.l.length+m.Actions.l.length+m.Tables.l.length:=ZK (by omega) (by omega)
 have w5:IntKind.i64.wrap ((m.Headers.l.length:Int)+m.Insts.l.length+m.States.l.length+m.Actions.l.length+m.Tables.l.length+m.Ingress.l.length)=(m.Headers.l.length:Int)+m.Insts.l.length+m.States.l.length+m.Actions.l.length+m.Tables.l.length+m.Ingress.l.length:=ZK (by omega) (by omega)
 have w6:IntKind.i64.wrap ((m.Headers.l.length:Int)+m.Insts.l.length+m.States.l.length+m.Actions.l.length+m.Tables.l.length+m.Ingress.l.length+m.Egress.l.length)=(m.Headers.l.length:Int)+m.Insts.l.length+m.States.l.length+m.Actions.l.length+m.Tables.l.length+m.Ingress.l.length+m.Egress.l.length:=ZK (by omega) (by omega)
 rw[Za ZvP]
 unfold Zac
 by_cases h:150<ZaS m
 ·have e: ¬ZaS m≤150:=by omega
  have h':=h
  unfold ZaS at h'
  simp -implicitDefEqProofs [f715,b715,w1,w2,w3,w4,w5,w6,h',e]
 ·have e:ZaS m≤150:=by omega
  have h':=h
  unfold ZaS at h'
  simp -implicitDefEqProofs [f715,b715,w1,w2,w3,w4,w5,w6,h',e,hc]
theorem ZIM(m:Zb)(h:Yr m=none)(d y no:Int)(s:Sl): ∀(l:List I64) (P:List (Bool ×Sl)) {a b c e:Int},(∀x∈l,Y3 m (WZ m x.n) 8=0)→(WK m d y no s l P).1=some (a,b,c,e)→e=11∧a=5
 |[],P,a,b,c,e,hl,he=>by simp[WK]at he
 |x::r,P,a,b,c,e,hl,he=>by
  simp only[WK]at he
  split at he
  ·exact ZIM m h d y no s r _ (fun z hz=>hl z (by simp[hz])) he
  ·rename_i hne
   rcases ZH3 h (hl x (by simp)) s with⟨h1,_⟩|⟨h1,_⟩
   ·exact absurd h1 hne
   ·simp at he
    exact⟨by rw[←he.2.2.2];exact h1,he.1.symm⟩
def ZJP(m:Zb)(x:Zs):Prop:=YZ m x=true∧(x.Kind.n=1→Y3 m x.Code.l 0=0)
theorem ZIV{m:Zb}(h:Yr m=none){a:Int}{act:Action}(hg:Zh m.Actions.l a=some act):Y3 m (WZ m a) 8=0:=by
 unfold WZ;rw[hg];exact Znw h hg
theorem ZJp{m:Zb}(h:Yr m=none){p i:Int}{x:Zs}(hx:ZJP m x){P:List (Bool ×Sl)}{s:Sl}{a b c e:Int}(he:(Vr m p i x P s).1=some (a,b,c,e)):e=11∧(a=5∨a=p):=by
 unfold Vr at he
 split at he
 ·rename_i k0
  obtain⟨t,ht⟩:=Zzn hx.1 k0
  unfold UC at he
  rw[ht]at he
  simp only at he
  split at he
  ·simp at he;exact⟨he.2.2.2.symm,.inr he.1.symm⟩
  ·obtain⟨h1,h2⟩:=ZIM m h _ _ _ _ _ _ (fun z hz=>by
    obtain⟨act,hact⟩:=(Za3 h ht).2 z hz
    exact ZIV h hact) he
   exact⟨h1,.inl h2⟩
 ·split at he
  ·rename_i k2
   obtain⟨act,hact⟩:=ZyL hx.1 k2
   split at he
   ·simp at he
   ·rename_i hne
    rcases ZH3 h (ZIV h hact) s with⟨h1,_⟩|⟨h1,_⟩
    ·exact absurd h1 hne
    ·simp at he;exact⟨by rw[←he.2.2.2];exact h1,.inl he.1.symm⟩
  ·split at he
   ·rename_i k1
    split at he
    ·simp at he
    ·rename_i hne
     rcases ZH3 h (ZfN (hx.2 k1) (by omega)) s with⟨h1,_⟩|⟨h1,_⟩
     ·exact absurd h1 hne
     ·simp at he;exact⟨by rw[←he.2.2.2];exact h1,.inr he.1.symm⟩
   ·simp at he
theorem ZIO{m:Zb}(h:Yr m=none)(p:Int): ∀(r:List Zs) (i:Nat) (P:List (Bool ×Sl)) {a b c e:Int},(∀x∈r,ZJP m x)→(X2 m p r i P).1=some (a,b,c,e)→e=11∧(a=5∨a=p)
 |[],_,_,_,_,_,_,_,he=>by simp[X2]at he
 |x::r,i,P,a,b,c,e,hr,he=>by
  simp only[X2]at he
  split at he
  ·exact ZIO h p r _ _ (fun z hz=>hr z (by simp[hz])) he
  ·have hn:=fun {a b c e}=>ZJp h (p:=p) (i:=i) (hr x (by simp)) (P:=P) (s:=(P.getD i (false,0)).2) (a:=a) (b:=b) (c:=c) (e:=e)
   generalize Vr m p i x P (P.getD i (false,0)).2=q at hn he
   obtain⟨o,P'⟩:=q
   cases o with
   |some w=>obtain⟨w1,w2,w3,w4⟩:=w;simp only at he hn;rw[Option.some.injEq,Prod.mk.injEq,Prod.mk.injEq,Prod.mk.injEq]at he;obtain⟨rfl,rfl,rfl,rfl⟩:=he;exact hn rfl
   |none=>exact ZIO h p r _ _ (fun z hz=>hr z (by simp[hz])) he
theorem ZJV{m:Zb}(h:Yr m=none)(eg:Bool): ∀x∈(ndP m eg).l,ZJP m x:=by
 have hok:(Wj m (ndP m eg).l).2=0:=by
  cases eg
  ·exact Zld h
  ·exact ZlT h
 intro x hx
 obtain⟨k,hk,he⟩:=List.getElem_of_mem hx
 have hg:Zh (ndP m eg).l (k:Int)=some x:=by simp[Zh,hk,he]
 have:=(ZaQ hok).2 _ _ hg
 exact⟨this.nm,this.code⟩
end Go.VE.Un
