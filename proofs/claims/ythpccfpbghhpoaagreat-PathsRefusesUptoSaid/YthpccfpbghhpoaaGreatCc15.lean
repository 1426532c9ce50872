/- Joined texts: CfB, CfC, CfD, CfF, CfH, CfI, CfG. No condition: what each theorem needs stands in it. -/
import Derived.Test.YthpccfpbghhpoaaGreatCc14
import Derived.Test.YthpccfpbghhpoaaGreatCc10
namespace Go.VE.Un
open Go.VE
def plV(p:Bool ×Sl):V:=.agg [.bool p.1,sV p.2]
@[simp] theorem Uw(k:Nat)(p:Bool ×Sl):Zk k (plV p)=true:=rfl
def Jy(p:Bool ×Sl)(s:Sl):Bool ×Sl:=if p.1=true then(true,p.2&&&s)else(true,s)
theorem Zbl{vp:VP}{h h1:Zg}(hl:h1.length=h.length):WM vp false h (.tup []) h1=(.tup [],h1):=by
 unfold WM
 split
 ·have:frz h.length h1 4 (.tup [])=some (.tup []):=WW rfl
  rw[this];simp[List.take_of_length_le,hl]
 ·rfl
theorem Zqj(b:Blk)(P:List (Bool ×Sl))(i:Nat)(p:Bool ×Sl)(hp:P[i]? =some p)(s:Sl)(n:Nat)(hn:P.length=n):
 (orc vp).call 107 0 [.ptr 1 n i 0,sV s] [b,.arr (P.map plV)]=some (.tup [],[b,.arr ((P.set i (Jy p s)).map plV)]):=by
 have hi:i<P.length:=by
  rcases Nat.lt_or_ge i P.length with h|h
  ·exact h
  ·rw[List.getElem?_eq_none h]at hp;simp at hp
 have c0:YF (P.map plV) n=some (P.map plV):=Yr (by simp[hn])
 have g0:(P.map plV)[i]? =some (plV p):=by simp[hp]
 have s1: ∀v,(P.map plV).set i (plV v)=(P.set i v).map plV:=fun v=>by rw[List.map_set]
 have c1: ∀v,YF ((P.map plV).set i v) n=some ((P.map plV).set i v):=fun v=>Yr (by simp[hn])
 have g1: ∀v,((P.map plV).set i v)[i]? =some v:=fun v=>by simp[hi]
 have s2: ∀v w,((P.map plV).set i v).set i w=(P.map plV).set i w:=fun v w=>by simp
 obtain⟨r,q⟩:=p
 rw[Zaw Zrb]
 cases r
 ·simp -implicitDefEqProofs [Zf,c0,g0,plV,Vf,c1,g1,s2]
  exact⟨_,rfl,rfl,rfl⟩
 ·simp -implicitDefEqProofs [Zf,c0,g0,plV,Vf,c1,g1,s2]
  exact⟨_,rfl,rfl,rfl⟩
theorem Zq1{β:Type}(b:Blk)(P:List (Bool ×Sl))(i:Nat)(p:Bool ×Sl)(hp:P[i]? =some p)(s:Sl)(n:Nat)(hn:P.length=n)(kv:V→Zg→Option β):
 rwK vp 0 [b,.arr (P.map plV)] 107 [.ptr 1 n i 0,sV s] kv=kv (.tup []) [b,.arr ((P.set i (Jy p s)).map plV)]:=by
 unfold rwK
 rw[Zqj b P i p hp s n hn]
 simp only[Option.bind_some]
 rw[Zbl (by simp)]
def atP(P:List (Bool ×Sl))(i:Nat)(s:Sl):List (Bool ×Sl):=P.set i (Jy (P.getD i (false,0)) s)
@[simp] theorem ZzQ(P:List (Bool ×Sl))(i:Nat)(s:Sl):(atP P i s).length=P.length:=by simp[atP]
theorem atK{β:Type}(b:Blk)(P:List (Bool ×Sl))(i:Nat)(s:Sl)(n:Nat)(hn:P.length=n)(hi:i<n)(kv:V→Zg→Option β):
 rwK vp 0 [b,.arr (P.map plV)] 107 [.ptr 1 n i 0,sV s] kv=kv (.tup []) [b,.arr ((atP P i s).map plV)]:=by
 have hp:P[i]? =some (P.getD i (false,0)):=by
  rw[List.getD_eq_getElem?_getD,List.getElem?_eq_getElem (by omega)];rfl
 exact Zq1 b P i _ hp s n hn kv
def YI(m:Zb)(n:Nat):List Ins→Nat→List (Bool ×Sl)→Option (Nat ×Int)×List (Bool ×Sl)
 |[],_,P=>(none,P)
 |x::r,i,P=>
  let p:=P.getD i (false,0)
  if p.1=false then YI m n r (i+1) P else
  let q:=XA m x p.2
  if q.2.2≠0 then(some (i,q.2.2),P)else
  if x.Op.n=34 then YI m n r (i+1) (atP P n p.2)else
  let P1:=match YQ x with|some t=>atP P t.toNat q.2.1|none=>P
  YI m n r (i+1) (if x.Op.n=31 then P1 else atP P1 (i+1) q.1)
@[simp] theorem ZC3(o a:Int):Zc vp 312 [.agg [.int .i64 o,.int .i64 a]]=some (.int .i64 o):=by rw[Za Zyt];simp -implicitDefEqProofs [b312]
@[simp] theorem ZDb(a b:Int):Zc vp 313 [.agg [.int .i64 a,.int .i64 b]]=some (.int .i64 33):=by rw[Za ZxT];simp -implicitDefEqProofs [b313]
@[simp] theorem ZCW(o a b:Int):Zc vp 314 [.agg [.int .i64 o,.int .i64 a,.int .i64 b]]=some (.int .i64 o):=by rw[Za ZvU];simp -implicitDefEqProofs [b314]
@[simp] theorem ZC5(o a:Int):Zc vp 315 [.agg [.int .i64 o,.int .i64 a]]=some (.int .i64 o):=by rw[Za ZvB];simp -implicitDefEqProofs [b315]
@[simp] theorem ZC2(o a:Int):Zc vp 316 [.agg [.int .i64 o,.int .i64 a]]=some (.int .i64 o):=by rw[Za Zvb];simp -implicitDefEqProofs [b316]
@[simp] theorem ZDc(a b:Int):Zc vp 317 [.agg [.int .i64 a,.int .i64 b]]=some (.int .i64 10):=by rw[Za Zxa];simp -implicitDefEqProofs [b317]
@[simp] theorem ZCY(o a b:Int):Zc vp 318 [.agg [.int .i64 o,.int .i64 a,.int .i64 b]]=some (.int .i64 o):=by rw[Za Zx0];simp -implicitDefEqProofs [b318]
@[simp] theorem ZCU(v:Vec):Zc vp 319 [v.v]=some (.int .i64 0):=by rw[Za Zx5];simp -implicitDefEqProofs [b319]
@[simp] theorem ZDh(o a:Int):Zc vp 320 [.agg [.int .i64 o,.int .i64 a]]=some (.int .i64 o):=by rw[Za ZyV];simp -implicitDefEqProofs [b320]
@[simp] theorem ZDa:Zc vp 321 [.agg []]=some (.int .i64 34):=by rw[Za ZxI];simp -implicitDefEqProofs [b321]
@[simp] theorem ZC9(o:Int):Zc vp 322 [.agg [.int .i64 o]]=some (.int .i64 o):=by rw[Za ZuX];simp -implicitDefEqProofs [b322]
theorem Zt0{β:Type}(x:Ins)(h:Wz x=0)(h0:Zg)(kv:V→Zg→Option β):ZkG (orc vp) vp 0 h0 0 (Ys x) [] kv=kv (.int .i64 x.Op.n) h0:=by
 obtain⟨k0,k1⟩:=QF h
 generalize he:x.Op.n=o at k0 k1
 rcases XV k0 k1 with rfl|rfl|rfl|rfl|rfl|rfl|rfl|rfl|rfl|rfl|rfl|rfl|rfl|rfl|rfl|rfl|rfl|rfl|rfl|rfl|rfl|rfl|rfl|rfl|rfl|rfl|rfl|rfl|rfl|rfl|rfl|rfl|rfl|rfl|rfl
 all_goals simp -implicitDefEqProofs [Ys,he,Zh,Yg,ZkG]
theorem Zph(m:Zb)(hs:Stk m)(l:List Ins)(hl: ∀x∈l,Wz x=0)(n:Nat)(hn:l.length=n)(hn2:n≤64)(ht: ∀x∈l,∀t,YQ x=some t→0≤t∧t≤n): ∀(r:List Ins) (i:Nat) (P:List (Bool ×Sl)),l.drop i=r→i≤n→P.length=n+1→∃fr hh,(orc vp).loop 0 [3,9,10,30,31,32] ZfS [(3,.ptr 0 1 0 0),(9,.gsl 1 (n+1) 2 0 (n+1)),(10,.ptr 1 (n+1) n 0),(30,.sl 1 (l.map Ys) .perm),(31,.int .i64 n),(32,.int .i64 i)] [.arr [m.v],.arr (P.map plV)]=
 some (match YI m n r i P with
  |(none,P')=>(.brk 0,(3,.ptr 0 1 0 0)::(9,.gsl 1 (n+1) 2 0 (n+1))::(10,.ptr 1 (n+1) n 0)::fr,[.arr [m.v],.arr (P'.map plV)])
  |(some (j,e),P')=>(.ret,[(6,.int .u64 0),(7,.int .i64 j),(8,.int .i64 e)],hh)):=by
 intro r
 induction r with
 |nil=>
  intro i P hd hi hP
  have hlt: ¬(i:Int)<n:=by
   have:l.length≤i:=List.drop_eq_nil_iff.1 hd
   omega
  refine⟨[(30,.sl 1 (l.map Ys) .perm),(31,.int .i64 n),(32,.int .i64 i),(33,.bool false)],[],?_⟩
  rw[UV]
  simp -implicitDefEqProofs [hlt,YI]
 |cons x r ih=>
  intro i P hd hi hP
  have hi2:i<n:=by
   have:i<l.length:=by
    rcases Nat.lt_or_ge i l.length with h|h
    ·exact h
    ·rw[List.drop_eq_nil_of_le h]at hd;simp at hd
   omega
  have hlt:(i:Int)<n:=by omega
  have hx:l[i]? =some x:=by
   have:=congrArg (fun q=>q[0]?) hd
   simpa using this
  have hm:=hl x (List.mem_of_getElem? hx)
  have hd':l.drop (i+1)=r:=by
   have:=congrArg (List.drop 1) hd
   simpa using this
  have w1:IntKind.i64.wrap ((i:Int)+1)=((i+1:Nat):Int):=ZE (by omega) (by omega)
  have hx':Zh l (i:Int)=some x:=by simp[Zh,hx]
  have hia: ∀j:Int,0≤j→j<(n+1:Nat)→Yc 2 (.gsl 1 (n+1) 2 0 (n+1)) (.int .i64 j)=some (.ptr 1 (n+1) j.toNat 0):=fun j h0 h1=>by
   have:j<(n:Int)+1:=by omega
   simp[Yc,h0,this]
  have hi0:=hia i (by omega) (by omega)
  rw[Int.toNat_natCast]at hi0
  have hdo:=Zqr m hs x hm
  have htg:=Zbx x hm
  have hinv:=fun h0 kv=>Zt0 (β:=Ex ×Fr ×Zg) x hm h0 kv
  have hp:P[i]? =some (P.getD i (false,0)):=by
   rw[List.getD_eq_getElem?_getD,List.getElem?_eq_getElem (by omega)];rfl
  have c0:YF (P.map plV) (n+1)=some (P.map plV):=Yr (by simp[hP])
  have g0:(P.map plV)[i]? =some (plV (P.getD i (false,0))):=by rw[List.getElem?_map,hp];rfl
  generalize hpp:P.getD i (false,0)=p at g0
  obtain⟨re,s⟩:=p
  cases re with
  |false=>
   obtain⟨fr,hh,ih⟩:=ih (i+1) P hd' (by omega) hP
   have e:YI m n (x::r) i P=YI m n r (i+1) P:=by simp only[YI,hpp,if_true]
   refine⟨fr,hh,?_⟩
   rw[UV,e,←ih]
   simp -implicitDefEqProofs [hlt,w1,hx',c0,g0,plV,hi0]
  |true=>
   have hdo:=hdo s
   have hi1:=hia ((i:Int)+1) (by omega) (by omega)
   have e2:((i:Int)+1).toNat=i+1:=by omega
   rw[e2]at hi1
   have hpp':P[i]?.getD (false,0#64)=(true,s):=by rw[←List.getD_eq_getElem?_getD];exact hpp
   by_cases he:(XA m x s).2.2=0
   ·by_cases hop:x.Op.n=34
    ·have e:YI m n (x::r) i P=YI m n r (i+1) (atP P n s):=by simp[YI,hpp',he,hop]
     obtain⟨fr,hh,ih⟩:=ih (i+1) (atP P n s) hd' (by omega) (by simp[hP])
     have ha:=fun kv=>atK (β:=Ex ×Fr ×Zg) (.arr [m.v]) P n s (n+1) hP (by omega) kv
     refine⟨fr,hh,?_⟩
     rw[UV,e,←ih]
     simp -implicitDefEqProofs [hlt,w1,hx',c0,g0,plV,hi0,hdo,he,hinv,hop,ha]
    ·cases ht':YQ x with
     |none=>
      have hj:x.Op.n≠31:=by intro e;simp[YQ,e]at ht'
      have e:YI m n (x::r) i P=YI m n r (i+1) (atP P (i+1) (XA m x s).1):=by simp[YI,hpp',he,hop,hj,ht']
      obtain⟨fr,hh,ih⟩:=ih (i+1) (atP P (i+1) (XA m x s).1) hd' (by omega) (by simp[hP])
      have ha:=fun kv=>atK (β:=Ex ×Fr ×Zg) (.arr [m.v]) P (i+1) (XA m x s).1 (n+1) hP (by omega) kv
      rw[ht']at htg
      refine⟨fr,hh,?_⟩
      rw[UV,e,←ih]
      simp -implicitDefEqProofs [hlt,w1,hx',c0,g0,plV,hi0,hdo,he,hinv,hop,ha,htg,hj,hi1]
     |some t=>
      obtain⟨t0,t1⟩:=ht x (List.mem_of_getElem? hx) t ht'
      have hit:=hia t t0 (by omega)
      have ha:=fun kv=>atK (β:=Ex ×Fr ×Zg) (.arr [m.v]) P t.toNat (XA m x s).2.1 (n+1) hP (by omega) kv
      have hb:=fun kv=>atK (β:=Ex ×Fr ×Zg) (.arr [m.v]) (atP P t.toNat (XA m x s).2.1) (i+1) (XA m x s).1 (n+1) (by simp[hP]) (by omega) kv
      rw[ht']at htg
      by_cases hj:x.Op.n=31
      ·have e:YI m n (x::r) i P=YI m n r (i+1) (atP P t.toNat (XA m x s).2.1):=by simp[YI,hpp',he,hj,ht']
       obtain⟨fr,hh,ih⟩:=ih (i+1) (atP P t.toNat (XA m x s).2.1) hd' (by omega) (by simp[hP])
       refine⟨fr,hh,?_⟩
       rw[UV,e,←ih]
       simp -implicitDefEqProofs [hlt,w1,hx',c0,g0,plV,hi0,hdo,he,hinv,ha,htg,hj,hit]
      ·have e:YI m n (x::r) i P=YI m n r (i+1) (atP (atP P t.toNat (XA m x s).2.1) (i+1) (XA m x s).1):=by simp[YI,hpp',he,hop,hj,ht']
       obtain⟨fr,hh,ih⟩:=ih (i+1) (atP (atP P t.toNat (XA m x s).2.1) (i+1) (XA m x s).1) hd' (by omega) (by simp[hP])
       refine⟨fr,hh,?_⟩
       rw[UV,e,←ih]
       simp -implicitDefEqProofs [hlt,w1,hx',c0,g0,plV,hi0,hdo,he,hinv,hop,ha,hb,htg,hj,hit,hi1]
   ·have e:YI m n (x::r) i P=(some (i,(XA m x s).2.2),P):=by simp[YI,hpp',he]
    refine⟨[],[.arr [m.v],.arr (P.map plV)],?_⟩
    rw[UV,e]
    simp -implicitDefEqProofs [hlt,w1,hx',c0,g0,plV,hi0,hdo,he]
def Q3(n:Nat)(q:Option (Nat ×Int)×List (Bool ×Sl)):V:=
 match q with
 |(some (j,e),_)=>.tup [.int .u64 0,.int .i64 j,.int .i64 e]
 |(none,P)=>.tup [sV (P.getD n (false,0)).2,.int .i64 0,.int .i64 0]
def Yy(n:Nat)(s:Sl):List (Bool ×Sl):=(true,s)::List.replicate n (false,0)
theorem Up(m:Zb)(n:Nat): ∀(r:List Ins) (i:Nat) (P:List (Bool ×Sl)),(YI m n r i P).2.length=P.length
 |[],_,_=>rfl
 |x::r,i,P=>by
  simp only[YI]
  split
  ·exact Up m n r _ _
  ·split
   ·rfl
   ·split
    ·rw[Up m n r];simp
    ·split
     ·rw[Up m n r];split<;>simp
     ·rw[Up m n r];split<;>simp
theorem Zqb(m:Zb)(hs:Stk m)(l:List Ins)(hl: ∀x∈l,Wz x=0)(hn2:l.length≤64)(ht: ∀x∈l,∀t,YQ x=some t→0≤t∧t≤l.length)(s:Sl):
 Zc vp 467 [m.v,.sl 1 (l.map Ys) .perm,sV s]=some (Q3 l.length (YI m l.length l 0 (Yy l.length s))):=by
 obtain⟨n,hn⟩: ∃n,l.length=n:=⟨_,rfl⟩
 rw[hn]at hn2 ht⊢
 obtain⟨fr,hh,hl⟩:=Zph m hs l hl n hn hn2 ht l 0 (Yy n s) rfl (by omega) (by simp[Yy])
 have w1:=w64 (n:=(n:Int)+1) (by omega)
 have hz:((0:Nat):Int)=0:=rfl
 rw[hz]at hl
 have ha:=fun kv=>Zq1 (β:=V) (.arr [m.v]) (List.replicate (n+1) (false,(0:Sl))) 0 (false,0) (by simp) s (n+1) (by simp) kv
 have e1:(List.replicate (n+1) (false,(0:Sl))).set 0 (Jy (false,0) s)=Yy n s:=by
  simp[Yy,Jy,List.replicate_succ]
 rw[e1]at ha
 have e2:List.replicate (n+1) (V.agg [.bool false,.int .u64 0])=(List.replicate (n+1) (false,(0:Sl))).map plV:=by rw[List.map_replicate];rfl
 have hmk:UX [.arr [m.v]] (.agg [.bool false,.int .u64 0]) 16 (.int .i64 ((n:Int)+1)) (.int .i64 ((n:Int)+1))=some (.gsl 1 (n+1) 2 0 (n+1),[.arr [m.v],.arr ((List.replicate (n+1) (false,(0:Sl))).map plV)]):=by
  unfold UX
  simp only
  have e3:((n:Int)+1).toNat=n+1:=by omega
  rw[if_pos (by unfold YB;omega),e3,e2];rfl
 generalize List.replicate (n+1) (false,(0:Sl))=R at ha hmk
 have hi0:Yc 2 (.gsl 1 (n+1) 2 0 (n+1)) (.int .i64 0)=some (.ptr 1 (n+1) 0 0):=by simp[Yc]
 have hi1:Yc 2 (.gsl 1 (n+1) 2 0 (n+1)) (.int .i64 (n:Int))=some (.ptr 1 (n+1) n 0):=by simp[Yc];omega
 have hlen:=Up m n l 0 (Yy n s)
 rw[Za Zv0]
 generalize YI m n l 0 (Yy n s)=q at hl hlen
 have hll:(GL.v 1 (fun v:V=>v) ⟨l.map Ys,.perm,by simp;omega⟩)=.sl 1 (l.map Ys) .perm:=by simp[GL.v]
 obtain⟨o,P⟩:=q
 cases o with
 |some je=>
  obtain⟨j,e⟩:=je
  simp only at hl
  simp -implicitDefEqProofs [Zf,hn,w1,hmk,hi0,hi1,ha,hl,Q3]
 |none=>
  simp only at hl hlen
  have c0:YF (P.map plV) (n+1)=some (P.map plV):=Yr (by simp[hlen,Yy])
  have g0:(P.map plV)[n]? =some (plV (P.getD n (false,0))):=by
   have:n<P.length:=by rw[hlen];simp[Yy]
   rw[List.getElem?_map,List.getD_eq_getElem?_getD,List.getElem?_eq_getElem this];rfl
  simp -implicitDefEqProofs [Zf,hn,w1,hmk,hi0,hi1,ha,hl,Q3,c0,g0,plV]
end Go.VE.Un
namespace Go.VE
theorem Xc{β:Type}{O:Orc}{vp:VP}{lo:Nat}{fr:Fr}{h:Zg}{k:Fr→Zg→Option β}{d:VDt}{r:List VDt}{p:Nat}{rs:List Jf}(hd:d.it.dst.isSome=true):
 dK O vp lo (d::r) p rs fr h k=Zt O vp lo [d.it] fr h (fun fr' h'=>if(rs.all fun e=> !d.xl.contains e.p||ZT (Yt h' e.agg e.n e.a) e.v)=true then dK O vp lo r (p+1) (Xe p d.it fr h (lk fr' (d.it.dst.getD 0))++rs) fr' h' k else none):=by
 obtain⟨t,hd⟩:=Option.isSome_iff_exists.1 hd
 unfold dK Zt
 simp only[Ui,YM]
 cases ZY O vp lo d.it fr h with
 |none=>rfl
 |some x=>
  simp only[Option.bind_some,hd,ZmD,Option.getD_some,Zty]
  split<;>rfl
end Go.VE
namespace Go.VE.Un
open Go.VE
theorem ZoI(m:Zb)(k:Nat)(fr:Fr)(e:lk fr k=m.v):Zf fr (.build [.str [],.sl 6 [] .nl,.sl 3 [] .nl,.sl 2 [] .nl,.sl 5 [] .nl,.sl 3 [] .nl,.sl 7 [] .nl,.sl 6 [] .nl,.sl 6 [] .nl,.sl 1 [] .nl,.sl 2 [] .nl,.sl 2 [] .nl,.sl 3 [] .nl,.sl 2 [] .nl,.sl 4 [] .nl,.int .i64 0,.int .i64 0,.int .i64 0] [(0,18,.t k)])=some m.v:=by
 simp only[Zf,List.map,List.all,opd,e]
 rfl
theorem ZnX(m:Zb)(hm:Clo m)(l:GL Ins)(ps:GL I64):Zc vp 482 [m.v,GL.v 1 I64.v ps,GL.v 6 Ins.v l]=some (.int .i64 (YO m l.l ps.l.length)):=by
 have hc:=ZdB m hm l ps
 unfold ZN at hc
 have hb:=ZoI m 8
 rw[Za Zwq]
 simp -implicitDefEqProofs [hb,hc]
def ZmQ(m:Zb)(l:List Ins)(s:Sl):V:=
 if Yb m=none∧YO m l 8=0 then Q3 l.length (YI m l.length l 0 (Yy l.length s))else .tup [.int .u64 0,.int .i64 0,.int .i64 1]
theorem Zaq{m:Zb}{p n:Int}: ∀{l:List Ins} {i:Int},Y3 m p n l i=0→0≤i→∀x∈l,∀t,YQ x=some t→0≤t∧t≤n
 |[],_,_,_,x,hx,_,_=>by simp at hx
 |y::r,i,h,hi,x,hx,t,ht=>by
  simp only[Y3]at h
  split at h
  ·rename_i h0
   rcases List.mem_cons.1 hx with rfl|hx
   ·simp only[V1,ht]at h0
    split at h0
    ·simp at h0
    ·rename_i h1
     by_cases hb:inB t (i+1) n=true
     ·simp[inB]at hb;omega
     ·simp[Zl,hb]at h0
   ·exact Zaq h (by omega) x hx t ht
  ·rename_i h0;exact absurd h h0
theorem ZjB{m:Zb}{l:List Ins}(h:YO m l 8=0):QS l=none∧(∀x∈l,Wz x=0)∧∀x∈l,∀t,YQ x=some t→0≤t∧t≤l.length:=by
 unfold YO at h
 cases ha:QS l with
 |some q=>obtain⟨i,e⟩:=q;rw[ha]at h;exact absurd h (J9 ha)
 |none=>rw[ha]at h;exact⟨rfl,(QI ha).2,Zaq h (by omega)⟩
theorem ZoF(m:Zb)(hm:Clo m)(hsm:Z2 m)(hs:Yb m=none→Stk m)(l:GL Ins)(s:Sl):Zc vp 461 [m.v,GL.v 6 Ins.v l,sV s]=some (ZmQ m l.l s):=by
 have hck:=Ze0 m hm hsm
 have hco:=ZnX m hm l
 rw[Za ZwS]
 unfold ZmQ
 cases hc:Yb m with
 |some q=>
  obtain⟨p,n,e⟩:=q
  rw[hc]at hck
  simp -implicitDefEqProofs [hck,Xc,Tx.E,Tx.D,Tx.la,Tx.ct,Tx.it,Tx.mv,Tx.Gf,Tx.G,Tx.bi,Tx.po,Xe,ZT]
 |none=>
  rw[hc]at hck
  simp -implicitDefEqProofs [hck,Xc,Tx.E,Tx.D,Tx.la,Tx.ct,Tx.it,Tx.mv,Tx.Gf,Tx.G,Tx.bi,Tx.po,Xe,ZT]
  have hmk:UX [.arr [m.v]] (.int .i64 0) 8 (.int .i64 8) (.int .i64 8)=some (.gsl 1 8 1 0 8,[.arr [m.v],.arr (List.replicate 8 (V.int .i64 0))]):=by simp[UX,YB,V.cells]
  have hbq:Wc m.v m.v=true:=by simp
  have hco8:Zc vp 482 [m.v,.sl 1 [.int .i64 0,.int .i64 0,.int .i64 0,.int .i64 0,.int .i64 0,.int .i64 0,.int .i64 0,.int .i64 0] .brw,GL.v 6 Ins.v l]=some (.int .i64 (YO m l.l 8)):=hco ⟨List.replicate 8 I64.z,.brw,by simp⟩
  by_cases hz:YO m l.l 8=0
  ·obtain⟨h1,h2,h3⟩:=ZjB hz
   have ha:=Zmx l
   rw[h1]at ha
   have ho:=Zqb m (hs hc) l.l h2 (QI h1).1 h3 s
   have hcl:Ze (Q3 l.l.length (YI m l.l.length l.l 0 (Yy l.l.length s)))=true:=by
    unfold Q3;split<;>simp
   generalize YI m l.l.length l.l 0 (Yy l.l.length s)=q at ho hcl
   obtain⟨o,P⟩:=q
   cases o with
   |none=>
    simp only[Q3]at ho
    simp -implicitDefEqProofs [hmk,hbq,hz,QD,List.replicate,Zan,hco8,ha,ho,Q3]
   |some q=>
    simp only[Q3]at ho
    simp -implicitDefEqProofs [hmk,hbq,hz,QD,List.replicate,Zan,hco8,ha,ho,Q3]
  ·simp -implicitDefEqProofs [hmk,hbq,hz,QD,List.replicate,Zan,hco8]
end Go.VE.Un
namespace Go.VE.Un
open Go.VE
theorem Zev{m:Zb}(h:Yb m=none)(p:Int)(h0:0≤p)(h1:p<15):(Zn m p).2=0:=WT h p h0 h1
theorem Zao: ∀a b:List ZF,Yq (a++b)=Yq a+Yq b
 |[],b=>by simp[Yq]
 |x::a,b=>by simp only[List.cons_append,Yq,Zao a b];omega
theorem Zsj{m:Zb}(h:Yb m=none):Stk m∧Yq m.Insts.l≤32:=by
 have h2:U6 m.Headers.l.length m.Insts.l=0:=by simpa[Zn]using Zev h 2 (by omega) (by omega)
 have h3:Yq m.Insts.l≤32:=by
  unfold U6 at h2
  split at h2
  ·simp at h2
  ·split at h2
   ·rename_i h1;exact absurd h2 h1
   ·split at h2
    ·simp at h2
    ·omega
 refine⟨fun i f d hs=> ?_,h3⟩
 unfold Z7 Wh at hs
 rcases Zm m.Insts.l i with⟨x,h0,h1,hg⟩|⟨h0,hg⟩
 ·rw[hg]at hs
  simp only[Option.bind_some]at hs
  by_cases hmz:many x.Depth.n=0
  ·simp[hmz]at hs
  ·by_cases hd:x.Depth.n=0
   ·simp[hmz,hd]at hs
   ·simp[hmz,hd]at hs
    obtain⟨rfl,rfl⟩:=hs
    have hb:=ZbD (m.Insts.l.take i.toNat)
    have hc:=ZbD (m.Insts.l.drop (i.toNat+1))
    have hmd:many x.Depth.n=x.Depth.n∧0≤x.Depth.n:=by
     unfold many at hmz⊢
     split at hmz
     ·rename_i hk;rw[if_pos hk,if_neg hd];exact⟨rfl,hk.1⟩
     ·exact absurd rfl hmz
    have e:m.Insts.l=m.Insts.l.take i.toNat++x::m.Insts.l.drop (i.toNat+1):=by
     obtain⟨hi,hx⟩: ∃hi:i.toNat<m.Insts.l.length,m.Insts.l[i.toNat]=x:=by
      unfold Zh at hg;rw[if_pos h0]at hg;exact List.getElem?_eq_some_iff.1 hg
     rw[←hx,List.getElem_cons_drop,List.take_append_drop]
    have e2:=congrArg Yq e
    rw[Zao]at e2
    simp only[Yq]at e2
    omega
 ·rw[hg]at hs;simp at hs
end Go.VE.Un
namespace Go.VE.Un
open Go.VE
def isS(n:Int)(k:Nat):Bool:=decide (0≤n∧n<64∧k=n.toNat)
theorem Zas(n:Int)(k:Nat):(Za8 n).getLsbD k=isS n k:=by
 unfold Za8 isS
 by_cases h:0≤n∧n<64
 ·rw[if_pos h,BitVec.getLsbD_twoPow]
  have:n.toNat<64:=by omega
  by_cases e:k=n.toNat
  ·subst e;simp[h,this]
  ·have e2: ¬n.toNat=k:=fun q=>e q.symm
   simp[e,e2]
 ·rw[if_neg h]
  simp
  omega
theorem ZjE(s:Sl)(n:Int)(k:Nat):(V7 s n).getLsbD k=(s.getLsbD k||isS n k):=by
 unfold V7;rw[BitVec.getLsbD_or,Zas]
theorem Zkh(s:Sl)(n:Int)(k:Nat):(Vc s n).getLsbD k=(s.getLsbD k&& !isS n k):=by
 unfold Vc;rw[BitVec.getLsbD_and,BitVec.getLsbD_not,Zas]
 by_cases h:k<64
 ·simp[h]
 ·have:s.getLsbD k=false:=BitVec.getLsbD_of_ge s k (by omega)
  simp[this]
theorem Zoh(s:Sl):(s !=0)=true↔∃k,s.getLsbD k=true:=by
 constructor
 ·intro h
  rcases Classical.em (∃k,s.getLsbD k=true)with h1|h1
  ·exact h1
  ·exfalso
   have:s=0#64:=BitVec.eq_of_getLsbD_eq fun k hk=>by
    have: ¬s.getLsbD k=true:=fun e=>h1 ⟨k,e⟩
    simpa using this
   subst this;simp at h
 ·rintro⟨k,hk⟩
  rw[bne_iff_ne]
  intro e;subst e;simp at hk
theorem Zmb(s:Sl)(n:Int):KL s n=(decide (0≤n∧n<64)&&s.getLsbD n.toNat):=by
 rw[Bool.eq_iff_iff]
 unfold KL
 rw[Zoh]
 simp only[BitVec.getLsbD_and,Zas,Bool.and_eq_true,isS,decide_eq_true_eq]
 constructor
 ·rintro⟨k,h1,h2,h3,rfl⟩;exact⟨⟨h2,h3⟩,h1⟩
 ·rintro⟨⟨h2,h3⟩,h1⟩;exact⟨_,h1,h2,h3,rfl⟩
def VV(a b:Sl):Prop:= ∀k,a.getLsbD k=true→b.getLsbD k=true
theorem VV.refl(a:Sl):VV a a:=fun _ h=>h
theorem VV.trans{a b c:Sl}(h:VV a b)(g:VV b c):VV a c:=fun k e=>g k (h k e)
theorem VV.with{a b:Sl}(h:VV a b)(n:Int):VV (V7 a n) (V7 b n):=fun k e=>by
 rw[ZjE,Bool.or_eq_true]at e⊢
 exact e.imp (h k) id
theorem VV.gone{a b:Sl}(h:VV a b)(n:Int):VV (Vc a n) (Vc b n):=fun k e=>by
 rw[Zkh,Bool.and_eq_true]at e⊢
 exact⟨h k e.1,e.2⟩
theorem VV.and{a b c d:Sl}(h:VV a b)(g:VV c d):VV (a&&&c) (b&&&d):=fun k e=>by
 rw[BitVec.getLsbD_and,Bool.and_eq_true]at e⊢
 exact⟨h k e.1,g k e.2⟩
theorem VV.has{a b:Sl}(h:VV a b){n:Int}(e:KL a n=true):KL b n=true:=by
 rw[Zmb,Bool.and_eq_true]at e⊢
 exact⟨e.1,h _ e.2⟩
theorem VV.or(a b:Sl):VV a (a|||b):=fun k e=>by rw[BitVec.getLsbD_or,e];rfl
def LeP(P Q:List (Bool ×Sl)):Prop:=P.length=Q.length∧∀i:Nat,(P.getD i (false,0)).1=(Q.getD i (false,0)).1∧VV (P.getD i (false,0)).2 (Q.getD i (false,0)).2
theorem Zfd(P:List (Bool ×Sl))(i j:Nat)(v:Bool ×Sl):(P.set i v).getD j (false,0)=if i=j∧i<P.length then v else P.getD j (false,0):=by
 rw[List.getD_eq_getElem?_getD,List.getElem?_set]
 by_cases e:i=j
 ·subst e
  by_cases c:i<P.length
  ·simp[c]
  ·simp[c]
 ·simp[e]
theorem LeP.at{P Q:List (Bool ×Sl)}(h:LeP P Q)(i:Nat){s t:Sl}(g:VV s t):LeP (atP P i s) (atP Q i t):=by
 refine⟨by simp[h.1],fun j=> ?_⟩
 unfold atP
 rw[Zfd,Zfd,←h.1]
 by_cases c:i=j∧i<P.length
 ·rw[if_pos c,if_pos c]
  have hi:=h.2 i
  unfold Jy
  rw[←hi.1]
  split
  ·exact⟨rfl,hi.2.and g⟩
  ·exact⟨rfl,g⟩
 ·rw[if_neg c,if_neg c];exact h.2 j
end Go.VE.Un
namespace Go.VE.Un
open Go.VE
def Zji(s:Sl):List Bool:=(List.range 64).map fun k=>s.getLsbD k
def bsV(l:List Bool):V:=.agg (l.map V.bool)
def ZaH(s:Sl):V:=bsV (Zji s)
@[simp] theorem QM(s:Sl):(Zji s).length=64:=by simp[Zji]
theorem JK(l:List Bool):Zv (l.map V.bool)=true:=by rw[YW];simp
theorem Kr(k:Nat)(l:List Bool):Zo k (l.map V.bool)=true:=Yp (fun _=>rfl) l
@[simp] theorem ZhG(l:List Bool):Ze (bsV l)=true:=by simp[bsV,JK]
@[simp] theorem Zj1(k:Nat)(l:List Bool):Zk k (bsV l)=true:=by simp[bsV,Kr]
@[simp] theorem ZBO(l:List Bool):okV (bsV l)=true:=nr rfl
@[simp] theorem Zre(s:Sl):Ze (ZaH s)=true:=ZhG _
@[simp] theorem Zr5(k:Nat)(s:Sl):Zk k (ZaH s)=true:=Zj1 _ _
@[simp] theorem ZzM(s:Sl):okV (ZaH s)=true:=nr rfl
theorem ZpP{l:List Bool}{n:Nat}(h:l.length=n):ldc (bsV l) true n 0=some (bsV l):=QD (by simp[h])
@[simp] theorem Zxk(s:Sl):ldc (ZaH s) true 64 0=some (ZaH s):=ZpP (QM s)
theorem ZiN{l l':List Bool}{n:Nat}(h:l.length=n)(h':l'.length=n):stc (bsV l) n 0 (bsV l')=some (bsV l'):=Ziy (by simp[h]) (by simp[h'])
@[simp] theorem Zvq{l:List Bool}(h:l.length=64)(s:Sl):stc (bsV l) 64 0 (ZaH s)=some (ZaH s):=ZiN h (QM s)
@[simp] theorem Zza(t s:Sl):stc (ZaH t) 64 0 (ZaH s)=some (ZaH s):=ZiN (QM t) (QM s)
end Go.VE.Un
namespace Go.VE
theorem Uj{β:Type}{O:Orc}{vp:VP}{lo:Nat}{fr:Fr}{h:Zg}{k:Fr→Zg→Option β}{n a x i b:Nat}{xl:List Nat}{r:List VDt}{p:Nat}{rs:List Jf}:
 dK O vp lo (⟨⟨none,.store n false (.t a) (.t x),none⟩,i,b,xl⟩::r) p rs fr h k=(Xo lo h n (lk fr a) (lk fr x)).bind fun h'=>if(rs.all fun e=> !xl.contains e.p||ZT (Yt h' e.agg e.n e.a) e.v)=true then dK O vp lo r (p+1) rs fr h' k else none:=by
 have e1:=UE (β:=β) O vp lo fr h (fun fr h=>if(rs.all fun e=> !xl.contains e.p||ZT (Yt h e.agg e.n e.a) e.v)=true then dK O vp lo r (p+1) rs fr h k else none) (.store n false (.t a) (.t x)) []
 rw[Zfx]at e1
 have e2:(fun h':Zg=>if(rs.all fun e=> !xl.contains e.p||ZT (Yt h' e.agg e.n e.a) e.v)=true then dK O vp lo r (p+1) rs fr h' k else none)=fun h'=>Zt O vp lo [] fr h' (fun fr h=>if(rs.all fun e=> !xl.contains e.p||ZT (Yt h e.agg e.n e.a) e.v)=true then dK O vp lo r (p+1) rs fr h k else none):=rfl
 rw[e2]
 simp only[ZlT]at e1
 rw[←e1]
 unfold dK Zt
 simp only[Ui,YM]
 cases ZY O vp lo ⟨none,.store n false (.t a) (.t x),none⟩ fr h with
 |none=>rfl
 |some x=>
  simp only[Option.bind_some,ZaP,Xe,List.nil_append]
  split<;>rfl
end Go.VE
namespace Go.VE.Un
open Go.VE
@[simp] theorem ZC8(z:Nat)(es:List V):Ze (.sl z es .ce)=Zv es:=by simp[Ze]
end Go.VE.Un
namespace Go.VE.Un
open Go.VE
theorem ZsD(a:U64):V.int .u64 a.n=sV (BitVec.ofInt 64 a.n):=by
 unfold sV
 have h0:=a.lo
 have h1:=a.hi
 congr 1
 rw[BitVec.toNat_ofInt]
 omega
end Go.VE.Un
