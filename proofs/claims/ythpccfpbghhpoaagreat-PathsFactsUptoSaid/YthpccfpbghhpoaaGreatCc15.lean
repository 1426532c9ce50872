/- Joined texts: CfB, CfC, CfD, CfF, CfH. No condition: what each theorem needs stands in it. -/
import Derived.Test.YthpccfpbghhpoaaGreatCc14
import Derived.Test.YthpccfpbghhpoaaGreatCc10
namespace Go.VE.Un
open Go.VE
def plV(p:Bool ×Sl):V:=.agg [.bool p.1,sV p.2]
@[simp] theorem Uy(k:Nat)(p:Bool ×Sl):Zk k (plV p)=true:=rfl
def Js(p:Bool ×Sl)(s:Sl):Bool ×Sl:=if p.1=true then(true,p.2&&&s)else(true,s)
theorem Zb0{vp:VP}{h h1:Zg}(hl:h1.length=h.length):WP vp false h (.tup []) h1=(.tup [],h1):=by
 unfold WP
 split
 ·have:frz h.length h1 4 (.tup [])=some (.tup []):=W3 rfl
  rw[this];simp[List.take_of_length_le,hl]
 ·rfl
theorem Zpj(b:Blk)(P:List (Bool ×Sl))(i:Nat)(p:Bool ×Sl)(hp:P[i]? =some p)(s:Sl)(n:Nat)(hn:P.length=n):
 (orc vp).call 107 0 [.ptr 1 n i 0,sV s] [b,.arr (P.map plV)]=some (.tup [],[b,.arr ((P.set i (Js p s)).map plV)]):=by
 have hi:i<P.length:=by
  rcases Nat.lt_or_ge i P.length with h|h
  ·exact h
  ·rw[List.getElem?_eq_none h]at hp;simp at hp
 have c0:YG (P.map plV) n=some (P.map plV):=Yt (by simp[hn])
 have g0:(P.map plV)[i]? =some (plV p):=by simp[hp]
 have s1: ∀v,(P.map plV).set i (plV v)=(P.set i v).map plV:=fun v=>by rw[List.map_set]
 have c1: ∀v,YG ((P.map plV).set i v) n=some ((P.map plV).set i v):=fun v=>Yt (by simp[hn])
 have g1: ∀v,((P.map plV).set i v)[i]? =some v:=fun v=>by simp[hi]
 have s2: ∀v w,((P.map plV).set i v).set i w=(P.map plV).set i w:=fun v w=>by simp
 obtain⟨r,q⟩:=p
 rw[K9 Zrd]
 cases r
 ·simp -implicitDefEqProofs [Zf,c0,g0,plV,W9,c1,g1,s2]
  exact⟨_,rfl,rfl,rfl⟩
 ·simp -implicitDefEqProofs [Zf,c0,g0,plV,W9,c1,g1,s2]
  exact⟨_,rfl,rfl,rfl⟩
theorem Zq0{β:Type}(b:Blk)(P:List (Bool ×Sl))(i:Nat)(p:Bool ×Sl)(hp:P[i]? =some p)(s:Sl)(n:Nat)(hn:P.length=n)(kv:V→Zg→Option β):
 rwK vp 0 [b,.arr (P.map plV)] 107 [.ptr 1 n i 0,sV s] kv=kv (.tup []) [b,.arr ((P.set i (Js p s)).map plV)]:=by
 unfold rwK
 rw[Zpj b P i p hp s n hn]
 simp only[Option.bind_some]
 rw[Zb0 (by simp)]
def atP(P:List (Bool ×Sl))(i:Nat)(s:Sl):List (Bool ×Sl):=P.set i (Js (P.getD i (false,0)) s)
@[simp] theorem ZAq(P:List (Bool ×Sl))(i:Nat)(s:Sl):(atP P i s).length=P.length:=by simp[atP]
theorem atK{β:Type}(b:Blk)(P:List (Bool ×Sl))(i:Nat)(s:Sl)(n:Nat)(hn:P.length=n)(hi:i<n)(kv:V→Zg→Option β):
 rwK vp 0 [b,.arr (P.map plV)] 107 [.ptr 1 n i 0,sV s] kv=kv (.tup []) [b,.arr ((atP P i s).map plV)]:=by
 have hp:P[i]? =some (P.getD i (false,0)):=by
  rw[List.getD_eq_getElem?_getD,List.getElem?_eq_getElem (by omega)];rfl
 exact Zq0 b P i _ hp s n hn kv
def Ys(m:Zb)(n:Nat):List Ins→Nat→List (Bool ×Sl)→Option (Nat ×Int)×List (Bool ×Sl)
 |[],_,P=>(none,P)
 |x::r,i,P=>
  let p:=P.getD i (false,0)
  if p.1=false then Ys m n r (i+1) P else
  let q:=YY m x p.2
  if q.2.2≠0 then(some (i,q.2.2),P)else
  if x.Op.n=34 then Ys m n r (i+1) (atP P n p.2)else
  let P1:=match YL x with|some t=>atP P t.toNat q.2.1|none=>P
  Ys m n r (i+1) (if x.Op.n=31 then P1 else atP P1 (i+1) q.1)
@[simp] theorem ZC9(o a:Int):Zc vp 312 [.agg [.int .i64 o,.int .i64 a]]=some (.int .i64 o):=by rw[Za ZvA];simp -implicitDefEqProofs [b312]
@[simp] theorem ZDh(a b:Int):Zc vp 313 [.agg [.int .i64 a,.int .i64 b]]=some (.int .i64 33):=by rw[Za Zv1];simp -implicitDefEqProofs [b313]
@[simp] theorem ZDk(o a b:Int):Zc vp 314 [.agg [.int .i64 o,.int .i64 a,.int .i64 b]]=some (.int .i64 o):=by rw[Za Zx7];simp -implicitDefEqProofs [b314]
@[simp] theorem ZCZ(o a:Int):Zc vp 315 [.agg [.int .i64 o,.int .i64 a]]=some (.int .i64 o):=by rw[Za Zzb];simp -implicitDefEqProofs [b315]
@[simp] theorem ZC2(o a:Int):Zc vp 316 [.agg [.int .i64 o,.int .i64 a]]=some (.int .i64 o):=by rw[Za Zwu];simp -implicitDefEqProofs [b316]
@[simp] theorem ZDe(a b:Int):Zc vp 317 [.agg [.int .i64 a,.int .i64 b]]=some (.int .i64 10):=by rw[Za ZxW];simp -implicitDefEqProofs [b317]
@[simp] theorem ZDg(o a b:Int):Zc vp 318 [.agg [.int .i64 o,.int .i64 a,.int .i64 b]]=some (.int .i64 o):=by rw[Za Zze];simp -implicitDefEqProofs [b318]
@[simp] theorem ZC3(v:Vec):Zc vp 319 [v.v]=some (.int .i64 0):=by rw[Za ZyU];simp -implicitDefEqProofs [b319]
@[simp] theorem ZDo(o a:Int):Zc vp 320 [.agg [.int .i64 o,.int .i64 a]]=some (.int .i64 o):=by rw[Za Zu7];simp -implicitDefEqProofs [b320]
@[simp] theorem ZDc:Zc vp 321 [.agg []]=some (.int .i64 34):=by rw[Za Zwy];simp -implicitDefEqProofs [b321]
@[simp] theorem ZDj(o:Int):Zc vp 322 [.agg [.int .i64 o]]=some (.int .i64 o):=by rw[Za ZxL];simp -implicitDefEqProofs [b322]
theorem Zta{β:Type}(x:Ins)(h:WB x=0)(h0:Zg)(kv:V→Zg→Option β):ZkT (orc vp) vp 0 h0 0 (Yu x) [] kv=kv (.int .i64 x.Op.n) h0:=by
 obtain⟨k0,k1⟩:=QO h
 generalize he:x.Op.n=o at k0 k1
 rcases XZ k0 k1 with rfl|rfl|rfl|rfl|rfl|rfl|rfl|rfl|rfl|rfl|rfl|rfl|rfl|rfl|rfl|rfl|rfl|rfl|rfl|rfl|rfl|rfl|rfl|rfl|rfl|rfl|rfl|rfl|rfl|rfl|rfl|rfl|rfl|rfl|rfl
 all_goals simp -implicitDefEqProofs [Yu,he,Zh,Yf,ZkT]
theorem ZoQ(m:Zb)(hs:Stk m)(l:List Ins)(hl: ∀x∈l,WB x=0)(n:Nat)(hn:l.length=n)(hn2:n≤64)(ht: ∀x∈l,∀t,YL x=some t→0≤t∧t≤n): ∀(r:List Ins) (i:Nat) (P:List (Bool ×Sl)),l.drop i=r→i≤n→P.length=n+1→∃fr hh,(orc vp).loop 0 [3,9,10,30,31,32] Zg2 [(3,.ptr 0 1 0 0),(9,.gsl 1 (n+1) 2 0 (n+1)),(10,.ptr 1 (n+1) n 0),(30,.sl 1 (l.map Yu) .perm),(31,.int .i64 n),(32,.int .i64 i)] [.arr [m.v],.arr (P.map plV)]=
 some (match Ys m n r i P with
  |(none,P')=>(.brk 0,(3,.ptr 0 1 0 0)::(9,.gsl 1 (n+1) 2 0 (n+1))::(10,.ptr 1 (n+1) n 0)::fr,[.arr [m.v],.arr (P'.map plV)])
  |(some (j,e),P')=>(.ret,[(6,.int .u64 0),(7,.int .i64 j),(8,.int .i64 e)],hh)):=by
 intro r
 induction r with
 |nil=>
  intro i P hd hi hP
  have hlt: ¬(i:Int)<n:=by
   have:l.length≤i:=List.drop_eq_nil_iff.1 hd
   omega
  refine⟨[(30,.sl 1 (l.map Yu) .perm),(31,.int .i64 n),(32,.int .i64 i),(33,.bool false)],[],?_⟩
  rw[UR]
  simp -implicitDefEqProofs [hlt,Ys]
 |cons x r ih=>
  intro i P hd hi hP
  have hi2:i<n:=by
   have:i<l.length:=by
    rcases Nat.lt_or_ge i l.length with h|h
    ·exact h
    ·rw[List.drop_eq_nil_of_le h]at hd;simp at hd
   omega
  have hlt:(i:Int)<n:=by omega
  have hx:l[i]? =some x:=by
   have:=congrArg (fun q=>q[0]?) hd
   simpa using this
  have hm:=hl x (List.mem_of_getElem? hx)
  have hd':l.drop (i+1)=r:=by
   have:=congrArg (List.drop 1) hd
   simpa using this
  have w1:IntKind.i64.wrap ((i:Int)+1)=((i+1:Nat):Int):=ZK (by omega) (by omega)
  have hx':Zh l (i:Int)=some x:=by simp[Zh,hx]
  have hia: ∀j:Int,0≤j→j<(n+1:Nat)→Yb 2 (.gsl 1 (n+1) 2 0 (n+1)) (.int .i64 j)=some (.ptr 1 (n+1) j.toNat 0):=fun j h0 h1=>by
   have:j<(n:Int)+1:=by omega
   simp[Yb,h0,this]
  have hi0:=hia i (by omega) (by omega)
  rw[Int.toNat_natCast]at hi0
  have hdo:=ZoT m hs x hm
  have htg:=Zbo x hm
  have hinv:=fun h0 kv=>Zta (β:=Ex ×Fr ×Zg) x hm h0 kv
  have hp:P[i]? =some (P.getD i (false,0)):=by
   rw[List.getD_eq_getElem?_getD,List.getElem?_eq_getElem (by omega)];rfl
  have c0:YG (P.map plV) (n+1)=some (P.map plV):=Yt (by simp[hP])
  have g0:(P.map plV)[i]? =some (plV (P.getD i (false,0))):=by rw[List.getElem?_map,hp];rfl
  generalize hpp:P.getD i (false,0)=p at g0
  obtain⟨re,s⟩:=p
  cases re with
  |false=>
   obtain⟨fr,hh,ih⟩:=ih (i+1) P hd' (by omega) hP
   have e:Ys m n (x::r) i P=Ys m n r (i+1) P:=by simp only[Ys,hpp,if_true]
   refine⟨fr,hh,?_⟩
   rw[UR,e,←ih]
   simp -implicitDefEqProofs [hlt,w1,hx',c0,g0,plV,hi0]
  |true=>
   have hdo:=hdo s
   have hi1:=hia ((i:Int)+1) (by omega) (by omega)
   have e2:((i:Int)+1).toNat=i+1:=by omega
   rw[e2]at hi1
   have hpp':P[i]?.getD (false,0#64)=(true,s):=by rw[←List.getD_eq_getElem?_getD];exact hpp
   by_cases he:(YY m x s).2.2=0
   ·by_cases hop:x.Op.n=34
    ·have e:Ys m n (x::r) i P=Ys m n r (i+1) (atP P n s):=by simp[Ys,hpp',he,hop]
     obtain⟨fr,hh,ih⟩:=ih (i+1) (atP P n s) hd' (by omega) (by simp[hP])
     have ha:=fun kv=>atK (β:=Ex ×Fr ×Zg) (.arr [m.v]) P n s (n+1) hP (by omega) kv
     refine⟨fr,hh,?_⟩
     rw[UR,e,←ih]
     simp -implicitDefEqProofs [hlt,w1,hx',c0,g0,plV,hi0,hdo,he,hinv,hop,ha]
    ·cases ht':YL x with
     |none=>
      have hj:x.Op.n≠31:=by intro e;simp[YL,e]at ht'
      have e:Ys m n (x::r) i P=Ys m n r (i+1) (atP P (i+1) (YY m x s).1):=by simp[Ys,hpp',he,hop,hj,ht']
      obtain⟨fr,hh,ih⟩:=ih (i+1) (atP P (i+1) (YY m x s).1) hd' (by omega) (by simp[hP])
      have ha:=fun kv=>atK (β:=Ex ×Fr ×Zg) (.arr [m.v]) P (i+1) (YY m x s).1 (n+1) hP (by omega) kv
      rw[ht']at htg
      refine⟨fr,hh,?_⟩
      rw[UR,e,←ih]
      simp -implicitDefEqProofs [hlt,w1,hx',c0,g0,plV,hi0,hdo,he,hinv,hop,ha,htg,hj,hi1]
     |some t=>
      obtain⟨t0,t1⟩:=ht x (List.mem_of_getElem? hx) t ht'
      have hit:=hia t t0 (by omega)
      have ha:=fun kv=>atK (β:=Ex ×Fr ×Zg) (.arr [m.v]) P t.toNat (YY m x s).2.1 (n+1) hP (by omega) kv
      have hb:=fun kv=>atK (β:=Ex ×Fr ×Zg) (.arr [m.v]) (atP P t.toNat (YY m x s).2.1) (i+1) (YY m x s).1 (n+1) (by simp[hP]) (by omega) kv
      rw[ht']at htg
      by_cases hj:x.Op.n=31
      ·have e:Ys m n (x::r) i P=Ys m n r (i+1) (atP P t.toNat (YY m x s).2.1):=by simp[Ys,hpp',he,hj,ht']
       obtain⟨fr,hh,ih⟩:=ih (i+1) (atP P t.toNat (YY m x s).2.1) hd' (by omega) (by simp[hP])
       refine⟨fr,hh,?_⟩
       rw[UR,e,←ih]
       simp -implicitDefEqProofs [hlt,w1,hx',c0,g0,plV,hi0,hdo,he,hinv,ha,htg,hj,hit]
      ·have e:Ys m n (x::r) i P=Ys m n r (i+1) (atP (atP P t.toNat (YY m x s).2.1) (i+1) (YY m x s).1):=by simp[Ys,hpp',he,hop,hj,ht']
       obtain⟨fr,hh,ih⟩:=ih (i+1) (atP (atP P t.toNat (YY m x s).2.1) (i+1) (YY m x s).1) hd' (by omega) (by simp[hP])
       refine⟨fr,hh,?_⟩
       rw[UR,e,←ih]
       simp -implicitDefEqProofs [hlt,w1,hx',c0,g0,plV,hi0,hdo,he,hinv,hop,ha,hb,htg,hj,hit,hi1]
   ·have e:Ys m n (x::r) i P=(some (i,(YY m x s).2.2),P):=by simp[Ys,hpp',he]
    refine⟨[],[.arr [m.v],.arr (P.map plV)],?_⟩
    rw[UR,e]
    simp -implicitDefEqProofs [hlt,w1,hx',c0,g0,plV,hi0,hdo,he]
def QY(n:Nat)(q:Option (Nat ×Int)×List (Bool ×Sl)):V:=
 match q with
 |(some (j,e),_)=>.tup [.int .u64 0,.int .i64 j,.int .i64 e]
 |(none,P)=>.tup [sV (P.getD n (false,0)).2,.int .i64 0,.int .i64 0]
def Yk(n:Nat)(s:Sl):List (Bool ×Sl):=(true,s)::List.replicate n (false,0)
theorem Uj(m:Zb)(n:Nat): ∀(r:List Ins) (i:Nat) (P:List (Bool ×Sl)),(Ys m n r i P).2.length=P.length
 |[],_,_=>rfl
 |x::r,i,P=>by
  simp only[Ys]
  split
  ·exact Uj m n r _ _
  ·split
   ·rfl
   ·split
    ·rw[Uj m n r];simp
    ·split
     ·rw[Uj m n r];split<;>simp
     ·rw[Uj m n r];split<;>simp
theorem ZpD(m:Zb)(hs:Stk m)(l:List Ins)(hl: ∀x∈l,WB x=0)(hn2:l.length≤64)(ht: ∀x∈l,∀t,YL x=some t→0≤t∧t≤l.length)(s:Sl):
 Zc vp 467 [m.v,.sl 1 (l.map Yu) .perm,sV s]=some (QY l.length (Ys m l.length l 0 (Yk l.length s))):=by
 obtain⟨n,hn⟩: ∃n,l.length=n:=⟨_,rfl⟩
 rw[hn]at hn2 ht⊢
 obtain⟨fr,hh,hl⟩:=ZoQ m hs l hl n hn hn2 ht l 0 (Yk n s) rfl (by omega) (by simp[Yk])
 have w1:=w64 (n:=(n:Int)+1) (by omega)
 have hz:((0:Nat):Int)=0:=rfl
 rw[hz]at hl
 have ha:=fun kv=>Zq0 (β:=V) (.arr [m.v]) (List.replicate (n+1) (false,(0:Sl))) 0 (false,0) (by simp) s (n+1) (by simp) kv
 have e1:(List.replicate (n+1) (false,(0:Sl))).set 0 (Js (false,0) s)=Yk n s:=by
  simp[Yk,Js,List.replicate_succ]
 rw[e1]at ha
 have e2:List.replicate (n+1) (V.agg [.bool false,.int .u64 0])=(List.replicate (n+1) (false,(0:Sl))).map plV:=by rw[List.map_replicate];rfl
 have hmk:UW [.arr [m.v]] (.agg [.bool false,.int .u64 0]) 16 (.int .i64 ((n:Int)+1)) (.int .i64 ((n:Int)+1))=some (.gsl 1 (n+1) 2 0 (n+1),[.arr [m.v],.arr ((List.replicate (n+1) (false,(0:Sl))).map plV)]):=by
  unfold UW
  simp only
  have e3:((n:Int)+1).toNat=n+1:=by omega
  rw[if_pos (by unfold YC;omega),e3,e2];rfl
 generalize List.replicate (n+1) (false,(0:Sl))=R at ha hmk
 have hi0:Yb 2 (.gsl 1 (n+1) 2 0 (n+1)) (.int .i64 0)=some (.ptr 1 (n+1) 0 0):=by simp[Yb]
 have hi1:Yb 2 (.gsl 1 (n+1) 2 0 (n+1)) (.int .i64 (n:Int))=some (.ptr 1 (n+1) n 0):=by simp[Yb];omega
 have hlen:=Uj m n l 0 (Yk n s)
 rw[Za Zzq]
 generalize Ys m n l 0 (Yk n s)=q at hl hlen
 have hll:(GL.v 1 (fun v:V=>v) ⟨l.map Yu,.perm,by simp;omega⟩)=.sl 1 (l.map Yu) .perm:=by simp[GL.v]
 obtain⟨o,P⟩:=q
 cases o with
 |some je=>
  obtain⟨j,e⟩:=je
  simp only at hl
  simp -implicitDefEqProofs [Zf,hn,w1,hmk,hi0,hi1,ha,hl,QY]
 |none=>
  simp only at hl hlen
  have c0:YG (P.map plV) (n+1)=some (P.map plV):=Yt (by simp[hlen,Yk])
  have g0:(P.map plV)[n]? =some (plV (P.getD n (false,0))):=by
   have:n<P.length:=by rw[hlen];simp[Yk]
   rw[List.getElem?_map,List.getD_eq_getElem?_getD,List.getElem?_eq_getElem this];rfl
  simp -implicitDefEqProofs [Zf,hn,w1,hmk,hi0,hi1,ha,hl,QY,c0,g0,plV]
end Go.VE.Un
namespace Go.VE
theorem Xd{β:Type}{O:Orc}{vp:VP}{lo:Nat}{fr:Fr}{h:Zg}{k:Fr→Zg→Option β}{d:VDt}{r:List VDt}{p:Nat}{rs:List Jf}(hd:d.it.dst.isSome=true):
 dK O vp lo (d::r) p rs fr h k=Zt O vp lo [d.it] fr h (fun fr' h'=>if(rs.all fun e=> !d.xl.contains e.p||ZT (Yv h' e.agg e.n e.a) e.v)=true then dK O vp lo r (p+1) (Xg p d.it fr h (lk fr' (d.it.dst.getD 0))++rs) fr' h' k else none):=by
 obtain⟨t,hd⟩:=Option.isSome_iff_exists.1 hd
 unfold dK Zt
 simp only[Ur,YN]
 cases ZY O vp lo d.it fr h with
 |none=>rfl
 |some x=>
  simp only[Option.bind_some,hd,ZnF,Option.getD_some,Zto]
  split<;>rfl
end Go.VE
namespace Go.VE.Un
open Go.VE
theorem ZoA(m:Zb)(k:Nat)(fr:Fr)(e:lk fr k=m.v):Zf fr (.build [.str [],.sl 6 [] .nl,.sl 3 [] .nl,.sl 2 [] .nl,.sl 5 [] .nl,.sl 3 [] .nl,.sl 7 [] .nl,.sl 6 [] .nl,.sl 6 [] .nl,.sl 1 [] .nl,.sl 2 [] .nl,.sl 2 [] .nl,.sl 3 [] .nl,.sl 2 [] .nl,.sl 4 [] .nl,.int .i64 0,.int .i64 0,.int .i64 0] [(0,18,.t k)])=some m.v:=by
 simp only[Zf,List.map,List.all,opd,e]
 rfl
theorem Zm4(m:Zb)(hm:Clo m)(l:GL Ins)(ps:GL I64):Zc vp 482 [m.v,GL.v 1 I64.v ps,GL.v 6 Ins.v l]=some (.int .i64 (Y3 m l.l ps.l.length)):=by
 have hc:=Zds m hm l ps
 unfold ZN at hc
 have hb:=ZoA m 8
 rw[Za Zwm]
 simp -implicitDefEqProofs [hb,hc]
def Znq(m:Zb)(l:List Ins)(s:Sl):V:=
 if Yr m=none∧Y3 m l 8=0 then QY l.length (Ys m l.length l 0 (Yk l.length s))else .tup [.int .u64 0,.int .i64 0,.int .i64 1]
theorem ZaE{m:Zb}{p n:Int}: ∀{l:List Ins} {i:Int},Y6 m p n l i=0→0≤i→∀x∈l,∀t,YL x=some t→0≤t∧t≤n
 |[],_,_,_,x,hx,_,_=>by simp at hx
 |y::r,i,h,hi,x,hx,t,ht=>by
  simp only[Y6]at h
  split at h
  ·rename_i h0
   rcases List.mem_cons.1 hx with rfl|hx
   ·simp only[V0,ht]at h0
    split at h0
    ·simp at h0
    ·rename_i h1
     by_cases hb:inB t (i+1) n=true
     ·simp[inB]at hb;omega
     ·simp[Zl,hb]at h0
   ·exact ZaE h (by omega) x hx t ht
  ·rename_i h0;exact absurd h h0
theorem Zln{m:Zb}{l:List Ins}(h:Y3 m l 8=0):QS l=none∧(∀x∈l,WB x=0)∧∀x∈l,∀t,YL x=some t→0≤t∧t≤l.length:=by
 unfold Y3 at h
 cases ha:QS l with
 |some q=>obtain⟨i,e⟩:=q;rw[ha]at h;exact absurd h (J9 ha)
 |none=>rw[ha]at h;exact⟨rfl,(Qz ha).2,ZaE h (by omega)⟩
theorem Zoo(m:Zb)(hm:Clo m)(hsm:Z2 m)(hs:Yr m=none→Stk m)(l:GL Ins)(s:Sl):Zc vp 461 [m.v,GL.v 6 Ins.v l,sV s]=some (Znq m l.l s):=by
 have hck:=ZeP m hm hsm
 have hco:=Zm4 m hm l
 rw[Za ZxR]
 unfold Znq
 cases hc:Yr m with
 |some q=>
  obtain⟨p,n,e⟩:=q
  rw[hc]at hck
  simp -implicitDefEqProofs [hck,Xd,Tx.E,Tx.D,Tx.la,Tx.ct,Tx.it,Tx.mv,Tx.Gf,Tx.G,Tx.bi,Tx.po,Xg,ZT]
 |none=>
  rw[hc]at hck
  simp -implicitDefEqProofs [hck,Xd,Tx.E,Tx.D,Tx.la,Tx.ct,Tx.it,Tx.mv,Tx.Gf,Tx.G,Tx.bi,Tx.po,Xg,ZT]
  have hmk:UW [.arr [m.v]] (.int .i64 0) 8 (.int .i64 8) (.int .i64 8)=some (.gsl 1 8 1 0 8,[.arr [m.v],.arr (List.replicate 8 (V.int .i64 0))]):=by simp[UW,YC,V.cells]
  have hbq:X7 m.v m.v=true:=by simp
  have hco8:Zc vp 482 [m.v,.sl 1 [.int .i64 0,.int .i64 0,.int .i64 0,.int .i64 0,.int .i64 0,.int .i64 0,.int .i64 0,.int .i64 0] .brw,GL.v 6 Ins.v l]=some (.int .i64 (Y3 m l.l 8)):=hco ⟨List.replicate 8 I64.z,.brw,by simp⟩
  by_cases hz:Y3 m l.l 8=0
  ·obtain⟨h1,h2,h3⟩:=Zln hz
   have ha:=ZmF l
   rw[h1]at ha
   have ho:=ZpD m (hs hc) l.l h2 (Qz h1).1 h3 s
   have hcl:Ze (QY l.l.length (Ys m l.l.length l.l 0 (Yk l.l.length s)))=true:=by
    unfold QY;split<;>simp
   generalize Ys m l.l.length l.l 0 (Yk l.l.length s)=q at ho hcl
   obtain⟨o,P⟩:=q
   cases o with
   |none=>
    simp only[QY]at ho
    simp -implicitDefEqProofs [hmk,hbq,hz,QE,List.replicate,ZaK,hco8,ha,ho,QY]
   |some q=>
    simp only[QY]at ho
    simp -implicitDefEqProofs [hmk,hbq,hz,QE,List.replicate,ZaK,hco8,ha,ho,QY]
  ·simp -implicitDefEqProofs [hmk,hbq,hz,QE,List.replicate,ZaK,hco8]
end Go.VE.Un
namespace Go.VE.Un
open Go.VE
theorem ZeI{m:Zb}(h:Yr m=none)(p:Int)(h0:0≤p)(h1:p<15):(Zn m p).2=0:=W2 h p h0 h1
theorem Za6: ∀a b:List ZE,Yp (a++b)=Yp a+Yp b
 |[],b=>by simp[Yp]
 |x::a,b=>by simp only[List.cons_append,Yp,Za6 a b];omega
theorem ZtQ{m:Zb}(h:Yr m=none):Stk m∧Yp m.Insts.l≤32:=by
 have h2:U3 m.Headers.l.length m.Insts.l=0:=by simpa[Zn]using ZeI h 2 (by omega) (by omega)
 have h3:Yp m.Insts.l≤32:=by
  unfold U3 at h2
  split at h2
  ·simp at h2
  ·split at h2
   ·rename_i h1;exact absurd h2 h1
   ·split at h2
    ·simp at h2
    ·omega
 refine⟨fun i f d hs=> ?_,h3⟩
 unfold Z8 Wi at hs
 rcases Zm m.Insts.l i with⟨x,h0,h1,hg⟩|⟨h0,hg⟩
 ·rw[hg]at hs
  simp only[Option.bind_some]at hs
  by_cases hmz:many x.Depth.n=0
  ·simp[hmz]at hs
  ·by_cases hd:x.Depth.n=0
   ·simp[hmz,hd]at hs
   ·simp[hmz,hd]at hs
    obtain⟨rfl,rfl⟩:=hs
    have hb:=ZbW (m.Insts.l.take i.toNat)
    have hc:=ZbW (m.Insts.l.drop (i.toNat+1))
    have hmd:many x.Depth.n=x.Depth.n∧0≤x.Depth.n:=by
     unfold many at hmz⊢
     split at hmz
     ·rename_i hk;rw[if_pos hk,if_neg hd];exact⟨rfl,hk.1⟩
     ·exact absurd rfl hmz
    have e:m.Insts.l=m.Insts.l.take i.toNat++x::m.Insts.l.drop (i.toNat+1):=by
     obtain⟨hi,hx⟩: ∃hi:i.toNat<m.Insts.l.length,m.Insts.l[i.toNat]=x:=by
      unfold Zh at hg;rw[if_pos h0]at hg;exact List.getElem?_eq_some_iff.1 hg
     rw[←hx,List.getElem_cons_drop,List.take_append_drop]
    have e2:=congrArg Yp e
    rw[Za6]at e2
    simp only[Yp]at e2
    omega
 ·rw[hg]at hs;simp at hs
end Go.VE.Un
namespace Go.VE.Un
open Go.VE
def isS(n:Int)(k:Nat):Bool:=decide (0≤n∧n<64∧k=n.toNat)
theorem Zar(n:Int)(k:Nat):(Zbg n).getLsbD k=isS n k:=by
 unfold Zbg isS
 by_cases h:0≤n∧n<64
 ·rw[if_pos h,BitVec.getLsbD_twoPow]
  have:n.toNat<64:=by omega
  by_cases e:k=n.toNat
  ·subst e;simp[h,this]
  ·have e2: ¬n.toNat=k:=fun q=>e q.symm
   simp[e,e2]
 ·rw[if_neg h]
  simp
  omega
theorem ZbO(s:Sl)(n:Int)(k:Nat):(VY s n).getLsbD k=(s.getLsbD k||isS n k):=by
 unfold VY;rw[BitVec.getLsbD_or,Zar]
theorem ZjI(s:Sl)(n:Int)(k:Nat):(Va s n).getLsbD k=(s.getLsbD k&& !isS n k):=by
 unfold Va;rw[BitVec.getLsbD_and,BitVec.getLsbD_not,Zar]
 by_cases h:k<64
 ·simp[h]
 ·have:s.getLsbD k=false:=BitVec.getLsbD_of_ge s k (by omega)
  simp[this]
theorem ZiJ(s:Sl):(s !=0)=true↔∃k,s.getLsbD k=true:=by
 constructor
 ·intro h
  rcases Classical.em (∃k,s.getLsbD k=true)with h1|h1
  ·exact h1
  ·exfalso
   have:s=0#64:=BitVec.eq_of_getLsbD_eq fun k hk=>by
    have: ¬s.getLsbD k=true:=fun e=>h1 ⟨k,e⟩
    simpa using this
   subst this;simp at h
 ·rintro⟨k,hk⟩
  rw[bne_iff_ne]
  intro e;subst e;simp at hk
theorem Zmx(s:Sl)(n:Int):JW s n=(decide (0≤n∧n<64)&&s.getLsbD n.toNat):=by
 rw[Bool.eq_iff_iff]
 unfold JW
 rw[ZiJ]
 simp only[BitVec.getLsbD_and,Zar,Bool.and_eq_true,isS,decide_eq_true_eq]
 constructor
 ·rintro⟨k,h1,h2,h3,rfl⟩;exact⟨⟨h2,h3⟩,h1⟩
 ·rintro⟨⟨h2,h3⟩,h1⟩;exact⟨_,h1,h2,h3,rfl⟩
def Xv(a b:Sl):Prop:= ∀k,a.getLsbD k=true→b.getLsbD k=true
theorem Xv.refl(a:Sl):Xv a a:=fun _ h=>h
theorem Xv.trans{a b c:Sl}(h:Xv a b)(g:Xv b c):Xv a c:=fun k e=>g k (h k e)
theorem Xv.with{a b:Sl}(h:Xv a b)(n:Int):Xv (VY a n) (VY b n):=fun k e=>by
 rw[ZbO,Bool.or_eq_true]at e⊢
 exact e.imp (h k) id
theorem Xv.gone{a b:Sl}(h:Xv a b)(n:Int):Xv (Va a n) (Va b n):=fun k e=>by
 rw[ZjI,Bool.and_eq_true]at e⊢
 exact⟨h k e.1,e.2⟩
theorem Xv.and{a b c d:Sl}(h:Xv a b)(g:Xv c d):Xv (a&&&c) (b&&&d):=fun k e=>by
 rw[BitVec.getLsbD_and,Bool.and_eq_true]at e⊢
 exact⟨h k e.1,g k e.2⟩
theorem Xv.has{a b:Sl}(h:Xv a b){n:Int}(e:JW a n=true):JW b n=true:=by
 rw[Zmx,Bool.and_eq_true]at e⊢
 exact⟨e.1,h _ e.2⟩
theorem Xv.or(a b:Sl):Xv a (a|||b):=fun k e=>by rw[BitVec.getLsbD_or,e];rfl
def LeP(P Q:List (Bool ×Sl)):Prop:=P.length=Q.length∧∀i:Nat,(P.getD i (false,0)).1=(Q.getD i (false,0)).1∧Xv (P.getD i (false,0)).2 (Q.getD i (false,0)).2
theorem ZfH(P:List (Bool ×Sl))(i j:Nat)(v:Bool ×Sl):(P.set i v).getD j (false,0)=if i=j∧i<P.length then v else P.getD j (false,0):=by
 rw[List.getD_eq_getElem?_getD,List.getElem?_set]
 by_cases e:i=j
 ·subst e
  by_cases c:i<P.length
  ·simp[c]
  ·simp[c]
 ·simp[e]
theorem LeP.at{P Q:List (Bool ×Sl)}(h:LeP P Q)(i:Nat){s t:Sl}(g:Xv s t):LeP (atP P i s) (atP Q i t):=by
 refine⟨by simp[h.1],fun j=> ?_⟩
 unfold atP
 rw[ZfH,ZfH,←h.1]
 by_cases c:i=j∧i<P.length
 ·rw[if_pos c,if_pos c]
  have hi:=h.2 i
  unfold Js
  rw[←hi.1]
  split
  ·exact⟨rfl,hi.2.and g⟩
  ·exact⟨rfl,g⟩
 ·rw[if_neg c,if_neg c];exact h.2 j
end Go.VE.Un
namespace Go.VE.Un
open Go.VE
def ZjA(s:Sl):List Bool:=(List.range 64).map fun k=>s.getLsbD k
def bsV(l:List Bool):V:=.agg (l.map V.bool)
def ZaU(s:Sl):V:=bsV (ZjA s)
@[simp] theorem QK(s:Sl):(ZjA s).length=64:=by simp[ZjA]
theorem ZGd(s:Sl)(k:Nat)(h:k<64):(ZjA s)[k]? =some (s.getLsbD k):=by
 unfold ZjA;rw[List.getElem?_map,List.getElem?_range h];rfl
theorem JC(l:List Bool):Zv (l.map V.bool)=true:=by rw[YR];simp
theorem KC(k:Nat)(l:List Bool):Zo k (l.map V.bool)=true:=Yq (fun _=>rfl) l
@[simp] theorem Zgg(l:List Bool):Ze (bsV l)=true:=by simp[bsV,JC]
@[simp] theorem Zlb(k:Nat)(l:List Bool):Zk k (bsV l)=true:=by simp[bsV,KC]
@[simp] theorem ZBp(l:List Bool):okV (bsV l)=true:=nr rfl
@[simp] theorem Zq1(s:Sl):Ze (ZaU s)=true:=Zgg _
@[simp] theorem Zt9(k:Nat)(s:Sl):Zk k (ZaU s)=true:=Zlb _ _
@[simp] theorem ZA1(s:Sl):okV (ZaU s)=true:=nr rfl
theorem Zpw{l:List Bool}{n:Nat}(h:l.length=n):ldc (bsV l) true n 0=some (bsV l):=QE (by simp[h])
@[simp] theorem Zyq(s:Sl):ldc (ZaU s) true 64 0=some (ZaU s):=Zpw (QK s)
theorem ZHw(l:List Bool)(n o:Nat):ldc (bsV l) false n o=(l[o]?).map V.bool:=by simp[bsV]
theorem ZGF(s:Sl)(n o:Nat)(h:o<64):ldc (ZaU s) false n o=some (.bool (s.getLsbD o)):=by unfold ZaU;rw[ZHw,ZGd s o h];rfl
theorem ZGP{l:List Bool}{o:Nat}(h:o<l.length)(b:Bool):stc (bsV l) 1 o (.bool b)=some (bsV (l.set o b)):=by
 unfold bsV;rw[W9 (by simpa using h) rfl,List.map_set]
theorem Zin{l l':List Bool}{n:Nat}(h:l.length=n)(h':l'.length=n):stc (bsV l) n 0 (bsV l')=some (bsV l'):=Zie (by simp[h]) (by simp[h'])
@[simp] theorem ZyT{l:List Bool}(h:l.length=64)(s:Sl):stc (bsV l) 64 0 (ZaU s)=some (ZaU s):=Zin h (QK s)
@[simp] theorem Zzs(t s:Sl):stc (ZaU t) 64 0 (ZaU s)=some (ZaU s):=Zin (QK t) (QK s)
theorem ZGs{l:List Bool}{s:Sl}(hl:l.length=64)(h: ∀k,k<64→l[k]? =some (s.getLsbD k)):l=ZjA s:=by
 apply List.ext_getElem?
 intro k
 by_cases c:k<64
 ·rw[h k c,ZGd s k c]
 ·rw[List.getElem?_eq_none (by omega),List.getElem?_eq_none (by simp;omega)]
theorem ZG2:List.replicate 64 false=ZjA 0#64:=ZGs (by simp) fun k h=>by rw[List.getElem?_replicate,if_pos h];simp
theorem ZGK:V.agg (rp 64 (.bool false))=ZaU 0#64:=by unfold ZaU;rw[←ZG2];simp only[rp,bsV,List.map_replicate]
theorem ZHq{n:Int}{k:Nat}(h0:0≤n)(h1:n<64):isS n k=decide (k=n.toNat):=by unfold isS;simp[h0,h1]
theorem ZG1(s:Sl){n:Int}(h0:0≤n)(h1:n<64):(ZjA s).set n.toNat true=ZjA (VY s n):=ZGs (by simp) fun k h=>by
 rw[ZbO,ZHq h0 h1,List.getElem?_set]
 by_cases c:n.toNat=k
 ·subst c;simp;omega
 ·have: ¬k=n.toNat:=fun e=>c e.symm
  rw[if_neg c,ZGd s k h];simp[this]
theorem ZJo(s:Sl){n:Int}(h0:0≤n)(h1:n<64):(ZjA s).set n.toNat false=ZjA (Va s n):=ZGs (by simp) fun k h=>by
 rw[ZjI,ZHq h0 h1,List.getElem?_set]
 by_cases c:n.toNat=k
 ·subst c;simp;omega
 ·have: ¬k=n.toNat:=fun e=>c e.symm
  rw[if_neg c,ZGd s k h];simp[this]
theorem ZG3(s:Sl){n:Int}(h0:0≤n)(h1:n<64):stc (ZaU s) 1 n.toNat (.bool true)=some (ZaU (VY s n)):=by
 unfold ZaU;rw[ZGP (by simp;omega),ZG1 s h0 h1]
theorem ZIs(s:Sl){n:Int}(h0:0≤n)(h1:n<64):stc (ZaU s) 1 n.toNat (.bool false)=some (ZaU (Va s n)):=by
 unfold ZaU;rw[ZGP (by simp;omega),ZJo s h0 h1]
theorem ZHf(s:Sl){n:Int}(h0:0≤n)(h1:n<64):JW s n=s.getLsbD n.toNat:=by rw[Zmx];simp[h0,h1]
def ZGm:Nat→Nat→Nat→List Bool→List Bool
 |_,0,_,L=>L
 |n,j+1,i,L=>ZGm (n/2) j (i+1) (L.set i (n%2==1))
theorem ZGE: ∀(j n i:Nat) (L:List Bool),(ZGm n j i L).length=L.length
 |0,_,_,_=>rfl
 |j+1,n,i,L=>by simp[ZGm,ZGE j]
theorem ZGC: ∀(j n i:Nat) (L:List Bool) (k:Nat),i+j≤L.length→(ZGm n j i L)[k]? =if i≤k∧k<i+j then some (n.testBit (k-i))else L[k]?
 |0,n,i,L,k,h=>by simp only[ZGm];rw[if_neg (by omega)]
 |j+1,n,i,L,k,h=>by
  simp only[ZGm]
  rw[ZGC j _ _ _ k (by simp;omega)]
  by_cases c:i+1≤k∧k<i+1+j
  ·rw[if_pos c,if_pos (by omega),show k-i=(k-(i+1))+1 by omega,Nat.testBit_succ]
  ·rw[if_neg c,List.getElem?_set]
   by_cases e:i=k
   ·subst e
    rw[if_pos rfl,if_pos (by omega),if_pos (by omega)]
    congr 1
    rw[Nat.sub_self,Nat.testBit_zero]
    rw[Bool.eq_iff_iff];simp
   ·rw[if_neg e,if_neg (by omega)]
theorem ZG6(s:Sl):ZGm s.toNat 64 0 (ZjA 0#64)=ZjA s:=ZGs (by simp[ZGE]) fun k h=>by
 rw[ZGC _ _ _ _ _ (by simp),if_pos (by omega)]
 simp[BitVec.testBit_toNat]
theorem ZHt(b:Blk): ∀(j:Nat) (i n:Nat) (L:List Bool),i+j=64→n<18446744073709551616→L.length=64→∃fr,(orc vp).loop 0 [0,2,3,4] ZGT [(0,.int .u64 n),(2,.ptr 0 1 0 0),(3,.ptr 1 1 0 0),(4,.int .i64 i)] [b,.arr [bsV L]]=
 some (.brk 0,(0,fr)::(2,.ptr 0 1 0 0)::(3,.ptr 1 1 0 0)::(4,.int .i64 64)::[(6,.bool false)],[b,.arr [bsV (ZGm n j i L)]]):=by
 intro j
 induction j with
 |zero=>
  intro i n L h hn hL
  have hi:i=64:=by omega
  subst hi
  refine⟨.int .u64 n,?_⟩
  rw[ZGY]
  simp -implicitDefEqProofs [ZGm]
 |succ j ih=>
  intro i n L h hn hL
  have hlt:(i:Int)<64:=by omega
  obtain⟨i2,hi2⟩: ∃i2,i+1=i2:=⟨_,rfl⟩
  obtain⟨n2,hn2⟩: ∃n2,n/2=n2:=⟨_,rfl⟩
  have w1:IntKind.i64.wrap ((i:Int)+1)=(i2:Int):=by rw[ZK (by omega) (by omega)];omega
  have q1:Yh .rem (.int .u64 n) (.int .u64 2)=some (.int .u64 ((n:Int)%2)):=by
   rw[JH _ _ _ (by decide:(2:Int)≠0)];congr 2
  have q2:Yh .quo (.int .u64 n) (.int .u64 2)=some (.int .u64 (n2:Int)):=by
   rw[ZoX _ _ _ (by decide:(2:Int)≠0),Int.tdiv_eq_ediv_of_nonneg (by omega),Zb8 (by omega) (by omega)];congr 2;omega
  have e1:decide ((n:Int)%2=1)=(n%2==1):=by
   rw[Bool.eq_iff_iff];simp;omega
  have st:=ZGP (l:=L) (o:=i) (by omega) (n%2==1)
  obtain⟨fr,ih⟩:=ih i2 n2 (L.set i (n%2==1)) (by omega) (by omega) (by simp[hL])
  refine⟨fr,?_⟩
  rw[ZGY]
  simp only[ZGm,hi2,hn2]
  simp -implicitDefEqProofs [hlt,w1,q1,q2,e1,st,ih]
theorem ZHv(s:Sl):Zc vp 905 [sV s]=some (ZaU s):=by
 have hz:((0:Nat):Int)=0:=rfl
 obtain⟨fr,hl⟩:=ZHt (.arr [ZaU 0#64]) 64 0 s.toNat (ZjA 0#64) rfl s.isLt (by simp)
 rw[ZG6,hz]at hl
 have hb: ∀s,bsV (ZjA s)=ZaU s:=fun _=>rfl
 rw[hb,hb]at hl
 have hr:=ZGK
 rw[Za ZHJ]
 unfold sV
 simp -implicitDefEqProofs [hr,hl]
def ZGn(A B:List Bool):Nat→Nat→List Bool→List Bool
 |0,_,L=>L
 |j+1,i,L=>ZGn A B j (i+1) (L.set i (A.getD i false&&B.getD i false))
theorem ZGB(A B:List Bool): ∀(j i:Nat) (L:List Bool),(ZGn A B j i L).length=L.length
 |0,_,_=>rfl
 |j+1,i,L=>by simp[ZGn,ZGB A B j]
theorem ZGD(A B:List Bool): ∀(j i:Nat) (L:List Bool) (k:Nat),i+j≤L.length→(ZGn A B j i L)[k]? =if i≤k∧k<i+j then some (A.getD k false&&B.getD k false)else L[k]?
 |0,i,L,k,h=>by simp only[ZGn];rw[if_neg (by omega)]
 |j+1,i,L,k,h=>by
  simp only[ZGn]
  rw[ZGD A B j _ _ k (by simp;omega)]
  by_cases c:i+1≤k∧k<i+1+j
  ·rw[if_pos c,if_pos (by omega)]
  ·rw[if_neg c,List.getElem?_set]
   by_cases e:i=k
   ·subst e
    rw[if_pos rfl,if_pos (by omega),if_pos (by omega)]
   ·rw[if_neg e,if_neg (by omega)]
theorem ZG5(a b:Sl):ZGn (ZjA a) (ZjA b) 64 0 (ZjA 0#64)=ZjA (a&&&b):=ZGs (by simp[ZGB]) fun k h=>by
 rw[ZGD _ _ _ _ _ _ (by simp),if_pos (by omega),List.getD_eq_getElem?_getD,List.getD_eq_getElem?_getD,ZGd a k h,ZGd b k h,BitVec.getLsbD_and];rfl
theorem ZHn(x y:Sl)(z:Blk): ∀(j:Nat) (i:Nat) (L:List Bool),i+j=64→L.length=64→(orc vp).loop 0 [2,3,4,5,6] ZGM [(2,.ptr 0 1 0 0),(3,.ptr 1 1 0 0),(4,.ptr 2 1 0 0),(5,.ptr 3 1 0 0),(6,.int .i64 i)] [.arr [ZaU x],.arr [ZaU y],z,.arr [bsV L]]=
 some (.brk 0,[(2,.ptr 0 1 0 0),(3,.ptr 1 1 0 0),(4,.ptr 2 1 0 0),(5,.ptr 3 1 0 0),(6,.int .i64 64),(8,.bool false)],[.arr [ZaU x],.arr [ZaU y],z,.arr [bsV (ZGn (ZjA x) (ZjA y) j i L)]]):=by
 intro j
 induction j with
 |zero=>
  intro i L h hL
  have hi:i=64:=by omega
  subst hi
  rw[ZGW]
  simp -implicitDefEqProofs [ZGn]
 |succ j ih=>
  intro i L h hL
  have hlt:(i:Int)<64:=by omega
  obtain⟨i2,hi2⟩: ∃i2,i+1=i2:=⟨_,rfl⟩
  have w1:IntKind.i64.wrap ((i:Int)+1)=(i2:Int):=by rw[ZK (by omega) (by omega)];omega
  have g1:=ZGF x 1 i (by omega)
  have g2:=ZGF y 1 i (by omega)
  have d1:(ZjA x).getD i false=x.getLsbD i:=by rw[List.getD_eq_getElem?_getD,ZGd x i (by omega)];rfl
  have d2:(ZjA y).getD i false=y.getLsbD i:=by rw[List.getD_eq_getElem?_getD,ZGd y i (by omega)];rfl
  have ih:=ih i2 (L.set i (x.getLsbD i&&y.getLsbD i)) (by omega) (by simp[hL])
  have st:=ZGP (l:=L) (o:=i) (by omega)
  rw[ZGW]
  simp only[ZGn,d1,d2,hi2]
  cases hx:x.getLsbD i
  ·rw[hx]at g1 ih
   have st:=st false
   rw[Bool.false_and]at ih⊢
   simp -implicitDefEqProofs [hlt,w1,g1,st,ih]
  ·rw[hx]at g1 ih
   have st:=st (y.getLsbD i)
   rw[Bool.true_and]at ih⊢
   simp -implicitDefEqProofs [hlt,w1,g1,g2,st,ih]
theorem ZGZ(a b:Sl):Zc vp 902 [ZaU a,ZaU b]=some (ZaU (a&&&b)):=by
 have hz:((0:Nat):Int)=0:=rfl
 have hl:=ZHn a b (.arr [ZaU 0#64]) 64 0 (ZjA 0#64) rfl (by simp)
 rw[ZG5,hz]at hl
 have hb: ∀s,bsV (ZjA s)=ZaU s:=fun _=>rfl
 rw[hb,hb]at hl
 have hr:=ZGK
 rw[Za ZHF]
 simp -implicitDefEqProofs [hr,hl]
end Go.VE.Un
